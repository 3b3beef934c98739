/- Contracts of turf.Lies, Side, Check, CheckDisc, Cuts, Touch. -/
import Derived.Test.YtialgmhhkbdegaaTk
namespace Go.Proofs.Ytialgmhhkbdegaa
open Go.RowKit Ev
theorem is_Check : FnIs Try.prog (61, Try.f61) := ⟨Try.func61, by kernel_rfl, by kernel_rfl⟩
theorem is_Cuts : FnIs Try.prog (15, Try.f15) := ⟨Try.func15, by kernel_rfl, by kernel_rfl⟩
theorem is_Touch : FnIs Try.prog (17, Try.f17) := ⟨Try.func17, by kernel_rfl, by kernel_rfl⟩
def pl_seg : List (Nat × PureT) := (26, g_lies) :: pl_lies
theorem pu_seg : PuOk Try.prog pl_seg := puOk_cons is_lies.plain p_lies pu_lies

def LsR (ax ay bx bY px py r : Int) : Int × Int := bif fpt ax ay && (fpt bx bY && fpt px py) then bif outB r 0 8388608 then (0, 3) else (LsV ax ay bx bY px py r, 0) else (0, 2)
def g_Lies : PureT
  | [.agg [.int .i64 ax, .int .i64 ay], .agg [.int .i64 bx, .int .i64 bY], .agg [.int .i64 px, .int .i64 py], .int .i64 r] => some (true, .tup [.int .i64 (LsR ax ay bx bY px py r).1, .int .i64 (LsR ax ay bx bY px py r).2])
  | _ => none
theorem p_Lies : PureOk Try.prog 11 g_Lies := by
  refine pureOk_of_ev (ctx_ok mixed pu_seg (fns_cons is_Lies (fns_cons is_fits fns_nil))) 3 fun xs x hw h => ?_
  unfold g_Lies at h
  split at h
  · rename_i ax ay bx bY px py r
    simp only [Option.some.injEq, Prod.mk.injEq, true_and] at h
    subst h
    simp only [WFL, WF, and_true] at hw
    obtain ⟨⟨a1, a2⟩, ⟨a3, a4⟩, ⟨a5, a6⟩, a7⟩ := hw
    refine ⟨rfl, ?_⟩
    have e : evFn (ctx Try.prog pl_seg [(11, Try.f11), (24, Try.f24)]) 3 11 [.agg [.int .i64 ax, .int .i64 ay], .agg [.int .i64 bx, .int .i64 bY], .agg [.int .i64 px, .int .i64 py], .int .i64 r] noHeap 0 outK =
      bif fitC ax ay then .leaf (.tup [.int .i64 0, .int .i64 2]) else bif fitD ax ay then .leaf (.tup [.int .i64 0, .int .i64 2]) else
      bif fitC bx bY then .leaf (.tup [.int .i64 0, .int .i64 2]) else bif fitD bx bY then .leaf (.tup [.int .i64 0, .int .i64 2]) else
      bif fitC px py then .leaf (.tup [.int .i64 0, .int .i64 2]) else bif fitD px py then .leaf (.tup [.int .i64 0, .int .i64 2]) else
      bif outB r 0 8388608 then .leaf (.tup [.int .i64 0, .int .i64 3]) else bif lsOk ax ay bx bY px py r then .leaf (.tup [.int .i64 (LsV ax ay bx bY px py r), .int .i64 0]) else .fail := by kernel_rfl
    rw [e]
    refine fit_sat a1 a2 (fun k => ?_) (fun k1 => fit_sat a3 a4 (fun k => ?_) (fun k2 => fit_sat a5 a6 (fun k => ?_) (fun k3 => sat_cond (fun k => ?_) (fun k4 => ?_))))
    · refine sat_leaf ?_
      unfold LsR; rw [k]; rfl
    · refine sat_leaf ?_
      unfold LsR; rw [k1, k]; rfl
    · refine sat_leaf ?_
      unfold LsR; rw [k1, k2, k]; rfl
    · refine sat_leaf ?_
      unfold LsR; rw [k1, k2, k3, k]; rfl
    · have : lsOk ax ay bx bY px py r = true := by unfold lsOk; rw [k1, k2, k3, k4]; rfl
      rw [this]
      refine sat_leaf ?_
      unfold LsR; rw [k1, k2, k3, k4]; rfl
  · simp at h

def SdR (ax ay bx bY px py : Int) : Int × Int := bif fpt ax ay && (fpt bx bY && fpt px py) then ((lft ax ay bx bY px py).sign, 0) else (0, 2)
def g_Side : PureT
  | [.agg [.int .i64 ax, .int .i64 ay], .agg [.int .i64 bx, .int .i64 bY], .agg [.int .i64 px, .int .i64 py]] => some (true, .tup [.int .i64 (SdR ax ay bx bY px py).1, .int .i64 (SdR ax ay bx bY px py).2])
  | _ => none
def ckV (x y : Int) : Int := bif fpt x y then 0 else 2
def g_Check : PureT
  | [.agg [.int .i64 ax, .int .i64 ay]] => some (true, .int .i64 (ckV ax ay))
  | _ => none
theorem p_Check : PureOk Try.prog 61 g_Check := by
  refine pureOk_of_ev (ctx_ok mixed pu_seg (fns_cons is_Check (fns_cons is_fits fns_nil))) 3 fun xs x hw h => ?_
  unfold g_Check at h
  split at h
  · rename_i ax ay
    simp only [Option.some.injEq, Prod.mk.injEq, true_and] at h
    subst h
    simp only [WFL, WF, and_true] at hw
    obtain ⟨a1, a2⟩ := hw
    refine ⟨rfl, ?_⟩
    have e : evFn (ctx Try.prog pl_seg [(61, Try.f61), (24, Try.f24)]) 3 61 [.agg [.int .i64 ax, .int .i64 ay]] noHeap 0 outK = bif fitC ax ay then .leaf (.int .i64 2) else bif fitD ax ay then .leaf (.int .i64 2) else .leaf (.int .i64 0) := by kernel_rfl
    rw [e]
    refine fit_sat a1 a2 (fun k => ?_) (fun k => ?_) <;> (refine sat_leaf ?_; unfold ckV; rw [k]; rfl)
  · simp at h
def cdOk (x y r : Int) : Bool := fpt x y && !outB r 1 65536
def cdV (x y r : Int) : Int := bif cdOk x y r then 0 else 2
def g_CheckDisc : PureT
  | [.agg [.int .i64 px, .int .i64 py, .int .i64 r]] => some (true, .int .i64 (cdV px py r))
  | _ => none
theorem p_CheckDisc : PureOk Try.prog 33 g_CheckDisc := by
  refine pureOk_of_ev (ctx_ok mixed pu_seg (fns_cons is_CheckDisc (fns_cons is_fits fns_nil))) 3 fun xs x hw h => ?_
  unfold g_CheckDisc at h
  split at h
  · rename_i px py r
    simp only [Option.some.injEq, Prod.mk.injEq, true_and] at h
    subst h
    simp only [WFL, WF, and_true] at hw
    obtain ⟨a1, a2, a3⟩ := hw
    refine ⟨rfl, ?_⟩
    have e : evFn (ctx Try.prog pl_seg [(33, Try.f33), (24, Try.f24)]) 3 33 [.agg [.int .i64 px, .int .i64 py, .int .i64 r]] noHeap 0 outK = bif fitC px py then .leaf (.int .i64 2) else bif fitD px py then .leaf (.int .i64 2) else
      bif decide (r < 1) then .leaf (.int .i64 2) else bif decide (r > 65536) then .leaf (.int .i64 2) else .leaf (.int .i64 0) := by kernel_rfl
    rw [e]
    refine fit_sat a1 a2 (fun k => ?_) (fun k1 => sat_cond (fun k => ?_) (fun k2 => sat_cond (fun k => ?_) (fun k3 => ?_)))
    · refine sat_leaf ?_
      unfold cdV cdOk; rw [k]; rfl
    · refine sat_leaf ?_
      unfold cdV cdOk outB; rw [k1, k]; rfl
    · have k' : decide (65536 < r) = true := k
      refine sat_leaf ?_
      unfold cdV cdOk outB; rw [k1, k2, k']; rfl
    · have k' : decide (65536 < r) = false := k3
      refine sat_leaf ?_
      unfold cdV cdOk outB; rw [k1, k2, k']; rfl
  · simp at h
def pl_disc : List (Nat × PureT) := (33, g_CheckDisc) :: pl_seg
theorem pu_disc : PuOk Try.prog pl_disc := puOk_cons is_CheckDisc.plain p_CheckDisc pu_seg

def CtR (ax ay bx bY px py r : Int) : Bool × Int := bif fpt ax ay && (fpt bx bY && cdOk px py r) then (decide (LsV ax ay bx bY px py r < 0), 0) else (false, 2)
def g_Cuts : PureT
  | [.agg [.int .i64 ax, .int .i64 ay], .agg [.int .i64 bx, .int .i64 bY], .agg [.int .i64 px, .int .i64 py, .int .i64 r]] => some (true, .tup [.bool (CtR ax ay bx bY px py r).1, .int .i64 (CtR ax ay bx bY px py r).2])
  | _ => none
theorem cd_ls {ax ay bx bY px py r : Int} (h1 : fpt ax ay = true) (h2 : fpt bx bY = true) (h3 : cdOk px py r = true) : lsOk ax ay bx bY px py r = true := by
  unfold cdOk at h3
  rw [Bool.and_eq_true, Bool.not_eq_true'] at h3
  have := out_false h3.2
  have h4 : outB r 0 8388608 = false := by unfold outB; simp; omega
  unfold lsOk; rw [h1, h2, h3.1, h4]; rfl
theorem p_Cuts : PureOk Try.prog 15 g_Cuts := by
  refine pureOk_of_ev (ctx_ok mixed pu_disc (fns_cons is_Cuts (fns_cons is_fits fns_nil))) 3 fun xs x hw h => ?_
  unfold g_Cuts at h
  split at h
  · rename_i ax ay bx bY px py r
    simp only [Option.some.injEq, Prod.mk.injEq, true_and] at h
    subst h
    simp only [WFL, WF, and_true] at hw
    obtain ⟨⟨a1, a2⟩, ⟨a3, a4⟩, a5, a6, a7⟩ := hw
    refine ⟨rfl, ?_⟩
    have e : evFn (ctx Try.prog pl_disc [(15, Try.f15), (24, Try.f24)]) 3 15 [.agg [.int .i64 ax, .int .i64 ay], .agg [.int .i64 bx, .int .i64 bY], .agg [.int .i64 px, .int .i64 py, .int .i64 r]] noHeap 0 outK =
      bif fitC ax ay then .leaf (.tup [.bool false, .int .i64 2]) else bif fitD ax ay then .leaf (.tup [.bool false, .int .i64 2]) else
      bif fitC bx bY then .leaf (.tup [.bool false, .int .i64 2]) else bif fitD bx bY then .leaf (.tup [.bool false, .int .i64 2]) else
      bif cdV px py r != 0 then .leaf (.tup [.bool false, .int .i64 2]) else
      bif lsOk ax ay bx bY px py r then .leaf (.tup [.bool (decide (LsV ax ay bx bY px py r < 0)), .int .i64 0]) else .fail := by kernel_rfl
    rw [e]
    refine fit_sat a1 a2 (fun k => ?_) (fun k1 => fit_sat a3 a4 (fun k => ?_) (fun k2 => ?_))
    · refine sat_leaf ?_
      unfold CtR; rw [k]; rfl
    · refine sat_leaf ?_
      unfold CtR; rw [k1, k]; rfl
    · unfold cdV CtR
      rw [k1, k2]
      cases k3 : cdOk px py r with
      | false => exact sat_leaf rfl
      | true =>
        rw [cd_ls k1 k2 k3]
        exact sat_leaf rfl
  · simp at h

def TcR (ax ay r px py q : Int) : Int × Int := bif cdOk ax ay r && cdOk px py q then ((sq ax ay px py - (r + q) * (r + q)).sign, 0) else (0, 2)
def g_Touch : PureT
  | [.agg [.int .i64 ax, .int .i64 ay, .int .i64 r], .agg [.int .i64 px, .int .i64 py, .int .i64 q]] => some (true, .tup [.int .i64 (TcR ax ay r px py q).1, .int .i64 (TcR ax ay r px py q).2])
  | _ => none
theorem p_Touch : PureOk Try.prog 17 g_Touch := by
  refine pureOk_of_ev (ctx_ok mixed pu_disc (fns_cons is_Touch fns_nil)) 3 fun xs x hw h => ?_
  unfold g_Touch at h
  split at h
  · rename_i ax ay r px py q
    simp only [Option.some.injEq, Prod.mk.injEq, true_and] at h
    subst h
    refine ⟨rfl, ?_⟩
    have e : evFn (ctx Try.prog pl_disc [(17, Try.f17)]) 3 17 [.agg [.int .i64 ax, .int .i64 ay, .int .i64 r], .agg [.int .i64 px, .int .i64 py, .int .i64 q]] noHeap 0 outK =
      bif cdV ax ay r != 0 then .leaf (.tup [.int .i64 0, .int .i64 2]) else bif cdV px py q != 0 then .leaf (.tup [.int .i64 0, .int .i64 2]) else
      bif fpt ax ay && fpt px py then .leaf (.tup [.int .i64 (sq ax ay px py - IntKind.i64.wrap (IntKind.i64.wrap (r + q) * IntKind.i64.wrap (r + q))).sign, .int .i64 0]) else .fail := by kernel_rfl
    rw [e]
    unfold cdV TcR
    cases k1 : cdOk ax ay r with
    | false => exact sat_leaf rfl
    | true =>
      cases k2 : cdOk px py q with
      | false => exact sat_leaf rfl
      | true =>
        unfold cdOk at k1 k2
        rw [Bool.and_eq_true, Bool.not_eq_true'] at k1 k2
        have c1 := out_false k1.2
        have c2 := out_false k2.2
        have b := mul_bd (a := r + q) (b := r + q) (A := 131072) (B := 131072) (by omega) (by omega) (by omega) (by omega)
        rw [k1.1, k2.1, wrap_id (n := r + q) (by omega) (by omega), wrap_id (n := (r + q) * (r + q)) (by omega) (by omega)]
        exact sat_leaf rfl
  · simp at h
end Go.Proofs.Ytialgmhhkbdegaa
