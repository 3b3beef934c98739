/- The law TopMeeting: for all arguments it returns true. -/
import Derived.Test.YtialgmhhkbdegaaWg
import Derived.Test.YtialgmhhkbdegaaWi
namespace Go.Proofs.Ytialgmhhkbdegaa
open Go.RowKit
namespace V
theorem is_TopMeeting : FnIs Try.prog (5, Try.f5) := ⟨Try.func5, by kernel_rfl, by kernel_rfl⟩
abbrev s_First : PureT := spec [cPt, cPt, cPt, cPt, cI, cI] [cI, cI] (fun _ => true) (fun x => ((Fs x.1.1 x.1.2.1 x.2.1.1 x.2.1.2.1 x.2.2.1.1 x.2.2.1.2.1 x.2.2.2.1.1 x.2.2.2.1.2.1 x.2.2.2.2.1 x.2.2.2.2.2.1).1, (Fs x.1.1 x.1.2.1 x.2.1.1 x.2.1.2.1 x.2.2.1.1 x.2.2.1.2.1 x.2.2.2.1.1 x.2.2.2.1.2.1 x.2.2.2.2.1 x.2.2.2.2.2.1).2, ()))
theorem q_First : PureOk Try.prog 16 s_First := bridge p_First _ _ rfl (fun _ => rfl)
def plTm : List (Nat × PureT) := (16, s_First) :: plTs
theorem puTm : PuOk Try.prog plTm := puOk_cons is_First.plain q_First puTs
noncomputable def X_tm0 : Ctx := ctx Try.prog plTm []
theorem X_tm0_ok : CtxOk X_tm0 := ctx_ok mixed puTm fns_nil
noncomputable def lb_tm : Code := (loopsOf (bodyOf Try.f5)).getD 0 .skip
def L_tm : Lay := { keys := [15, 20, 21, 23, 24, 26, 27], ks := [.p 2 0 0 0, .p 9 0 0 0, .p 10 0 0 0, .d cI, .d cI, .d cI, .d cI], bs := [(2, 26, kB2), (9, 32, kM6), (10, 32, kM6)], n := 199, nx := 1000, marks := [] }
def Q_tm : Lay := { keys := [14], ks := [.d .b], bs := [], n := 199, nx := 1000, marks := [] }
def E_tm : XE → Lay
  | .ret => Q_tm
  | _ => { keys := [], ks := [], bs := [], n := 199, nx := 1000, marks := [] }
def hd_tm (b : SKTs kB2) (s t : M6) (near e f k : Int) : L_tm.T := (((), (), (), near, e, f, k, ()), (b, s, t, ()))
def rt_tm (v : Bool) : Left' E_tm := ⟨.ret, ((v, ()), ())⟩
def ex_tm : Left' E_tm := ⟨.exit 0, ((), ())⟩
def tcM (b : SKTs kB2) (s t : M6) : Int × Int := TcR s.1 s.2.1 b.2.1 t.1 t.2.1 b.2.1
abbrev Ttm := Tree (L_tm.T ⊕ Left' E_tm)
def rF : Ttm := .leaf (.inr (rt_tm false))
def rtO (x y : RMot) : Ttm := bif x.2.1 == 4 then .leaf (.inr (rt_tm true)) else bif y.2.1 == 4 then .leaf (.inr (rt_tm true)) else rF
def nxt_tm (b : SKTs kB2) (s t : M6) (near e f k : Int) : Ttm := bif (stp b s).2.1 != 0 then rtO (stp b s) (stp b t) else bif (stp b t).2.1 != 0 then rtO (stp b s) (stp b t) else .leaf (.inl (hd_tm b (flat6 (stp b s).1) (flat6 (stp b t).1) near e f (W64 (k + 1))))
def c2_tm (b : SKTs kB2) (s t : M6) (near e f k : Int) : Ttm := bif f == 5 then bif decide ((tcM b s t).1 ≤ 0) then rF else nxt_tm b s t near e f k else nxt_tm b s t near e f k
def st_tm (b : SKTs kB2) (s t : M6) (near e f k : Int) : Ttm := bif decide (k ≤ 16) then bif (tcM b s t).2 != 0 then rF else
  bif e == 0 then bif k == near then bif decide ((tcM b s t).1 > 0) then rF else c2_tm b s t near e f k else c2_tm b s t near e f k else c2_tm b s t near e f k else .leaf (.inr ex_tm)
def stg_tm (g : L_tm.T) : Ttm := st_tm g.2.1 g.2.2.1 g.2.2.2.1 g.1.2.2.2.1 g.1.2.2.2.2.1 g.1.2.2.2.2.2.1 g.1.2.2.2.2.2.2.1
def fu_tm (g : L_tm.T) : Nat := (17 - g.1.2.2.2.2.2.2.1).toNat + 1
theorem l_tm : LoopOk Try.prog 5 lb_tm (loopSum L_tm E_tm (finX [.ret, .exit 0] stg_tm fu_tm)) := loopOk_x0 X_tm0_ok 7 _ L_tm E_tm (fun e => by cases e <;> exact Nat.le_of_ble_eq_true rfl) _ stg_tm fu_tm (fun g => by kernel_rfl)
noncomputable def X_topMeeting : Ctx := ctxL Try.prog plTm [(5, Try.f5), (7, Try.f7), (8, Try.f8)] [((5, 14), loopSum L_tm E_tm (finX [.ret, .exit 0] stg_tm fu_tm))]
theorem X_topMeeting_ok : CtxOk X_topMeeting := ctxL_ok mixed puTm (fns_cons is_TopMeeting (fns_cons is_round (fns_cons is_spot fns_nil))) (by
  intro p hp d hd g hg
  simp only [List.mem_cons, List.not_mem_nil, or_false] at hp
  rcases hp with rfl | rfl | rfl
  · have hl : loopsOf (bodyOf Try.f5) = [lb_tm] := by kernel_rfl
    simp only at hd hg
    rw [hl, List.mem_singleton] at hd
    subst hd
    have hk : keyOf lb_tm = 14 := by kernel_rfl
    rw [hk] at hg
    have h2 : some (loopSum L_tm E_tm (finX [.ret, .exit 0] stg_tm fu_tm)) = some g := hg
    cases h2
    exact l_tm
  · exact nomatch (show (none : Option (St → Tree (XE × St))) = some g from hg)
  · exact nomatch (show (none : Option (St → Tree (XE × St))) = some g from hg))
abbrev cI16 : TC := .i .i16
abbrev cs_topMeeting : List TC := [.st [.i .u16, .i .u16], cI16, cI16, cI16, cI16, cI16, cI16]
def q4 (v : Int) : Int := W64 (Int.tdiv (W64 v) 4)
def mq (v : Int) : Int := W64 (W64 (4 * 450) * v)
def y_tm (px py qx qy vx vy wx wy near e f : Int) : Option (Left' E_tm) := iter stg_tm ((17 - (0 : Int)).toNat + 1) (hd_tm (450, 2946, ()) (px, py, mq vx, mq vy, 0, 0, ()) (qx, qy, mq wx, mq wy, 0, 0, ()) near e f 0)
def go_tm (px py qx qy vx vy wx wy near e f : Int) : Tree Unit := bif isE .ret (y_tm px py qx qy vx vy wx wy near e f) then bif (valE .ret (y_tm px py qx qy vx vy wx wy near e f)).1.1 then .leaf () else .fail else bif isE (.exit 0) (y_tm px py qx qy vx vy wx wy near e f) then .leaf () else .fail
def go2_tm (px py qx qy vx vy wx wy near e f : Int) : Tree Unit := bif f != 0 then bif f != 5 then .fail else go_tm px py qx qy vx vy wx wy near e f else go_tm px py qx qy vx vy wx wy near e f
def go1_tm (px py qx qy vx vy wx wy near e f : Int) : Tree Unit := bif e != 0 then bif e != 5 then .fail else go2_tm px py qx qy vx vy wx wy near e f else go2_tm px py qx qy vx vy wx wy near e f
def T_tm (px py qx qy vx vy wx wy : Int) : Tree Unit := go1_tm px py qx qy vx vy wx wy (Fs px py vx vy qx qy wx wy (W64 (W64 (2 * 2946) - 2)) 16).1 (Fs px py vx vy qx qy wx wy (W64 (W64 (2 * 2946) - 2)) 16).2 (Fs px py vx vy qx qy wx wy (W64 (W64 (2 * 2946) + 2)) 16).2
def TY_topMeeting (y : TCTs cs_topMeeting) : Tree Unit := T_tm (dX y.1.1) (dY y.1.2.1) (W64 (dX y.1.1 + W64 y.2.1)) (W64 (dY y.1.2.1 + W64 y.2.2.1)) (q4 y.2.2.2.1) (q4 y.2.2.2.2.1) (q4 y.2.2.2.2.2.1) (q4 y.2.2.2.2.2.2.1)
theorem TY_topMeeting_eq (x : TCTs cs_topMeeting) : evFn X_topMeeting 12 (.fn 5) (encAs cs_topMeeting x) noHeap 0 lawK = TY_topMeeting x := by kernel_rfl
/-! the plain law -/
open Roll in
structure InvM (x0 y0 mx my : Int) (k : Nat) (s : M6) : Prop where
  fp : fpt (m1 s) (m2 s) = true
  e3 : m3 s = mx
  e4 : m4 s = my
  e1 : D * (m1 s - x0) = (k : Int) * mx - m5 s
  e2 : D * (m2 s - y0) = (k : Int) * my - m6 s
  r5 : -14400 ≤ m5 s ∧ m5 s ≤ 14399
  r6 : -14400 ≤ m6 s ∧ m6 s ≤ 14399
abbrev B45 : SKTs kB2 := (450, 2946, ())
theorem InvM.ok {x0 y0 mx my : Int} {k : Nat} {s : M6} (h : InvM x0 y0 mx my k s) (hx : -16777216 ≤ mx ∧ mx ≤ 16777216) (hy : -16777216 ≤ my ∧ my ≤ 16777216) : (bmT s).ok = true := by
  have hr5 := h.r5
  have hr6 := h.r6
  have hs : strongB (m3 s) (m4 s) = true := by rw [h.e3, h.e4]; exact strong_of hx hy
  show motB 450 2946 (m1 s) (m2 s) (m3 s) (m4 s) (m5 s) (m6 s) = true
  unfold motB
  rw [h.fp, hs]
  have e1 : outB (m5 s) (-(32 * 450)) (32 * 450 - 1) = false := by
    unfold outB
    rw [decide_eq_false (show ¬ m5 s < -(32 * 450) by omega), decide_eq_false (show ¬ 32 * 450 - 1 < m5 s by omega)]; rfl
  have e2 : outB (m6 s) (-(32 * 450)) (32 * 450 - 1) = false := by
    unfold outB
    rw [decide_eq_false (show ¬ m6 s < -(32 * 450) by omega), decide_eq_false (show ¬ 32 * 450 - 1 < m6 s by omega)]; rfl
  rw [e1, e2]
  decide
theorem stp_inv {x0 y0 mx my : Int} {k : Nat} {s : M6} (h : InvM x0 y0 mx my k s) (hx : -16777216 ≤ mx ∧ mx ≤ 16777216) (hy : -16777216 ≤ my ∧ my ≤ 16777216) :
    (stp B45 s).2.1 = (4 : Int) ∨ ((stp B45 s).2.1 = (0 : Int) ∧ InvM x0 y0 mx my (k + 1) (flat6 (stp B45 s).1)) := by
  have hok := h.ok hx hy
  rw [stp_eq]
  unfold StepR
  rw [hok]
  simp only [Bool.not_true, cond_false]
  cases hf : fpt (sX (bmT s)) (sY (bmT s)) with
  | false => exact .inl rfl
  | true =>
    refine .inr ⟨rfl, ?_⟩
    simp only [Bool.not_true, cond_false]
    obtain ⟨d1, d2, d3⟩ := dwr (m3 s + m5 s)
    obtain ⟨d4, d5, d6⟩ := dwr (m4 s + m6 s)
    have ex : sX (bmT s) = m1 s + DW (m3 s + m5 s) 28800 := rfl
    have ey : sY (bmT s) = m2 s + DW (m4 s + m6 s) 28800 := rfl
    refine ⟨hf, h.e3, h.e4, ?_, ?_, ⟨d2, d3⟩, ⟨d5, d6⟩⟩
    · have := Roll.At.step h.e1 (w := DW (m3 s + m5 s) 28800) (r' := DR (m3 s + m5 s) 28800) (by rw [← h.e3]; exact d1) ⟨d2, by omega⟩
      rw [show (((k + 1 : Nat) : Int)) = (k : Int) + 1 by omega]
      exact this
    · have := Roll.At.step h.e2 (w := DW (m4 s + m6 s) 28800) (r' := DR (m4 s + m6 s) 28800) (by rw [← h.e4]; exact d4) ⟨d5, by omega⟩
      rw [show (((k + 1 : Nat) : Int)) = (k : Int) + 1 by omega]
      exact this
/-- how far the ways are at a part -/
def uWay (px qx vx wx k : Int) : Int := 16 * (px - qx) + k * (vx - wx)
structure Ways where
  px : Int
  py : Int
  qx : Int
  qy : Int
  vx : Int
  vy : Int
  wx : Int
  wy : Int
def Ways.u2 (w : Ways) (k : Int) : Int := uWay w.px w.qx w.vx w.wx k * uWay w.px w.qx w.vx w.wx k + uWay w.py w.qy w.vy w.wy k * uWay w.py w.qy w.vy w.wy k
structure Ways.Small (w : Ways) : Prop where
  a : -16777216 ≤ 1800 * w.vx ∧ 1800 * w.vx ≤ 16777216
  b : -16777216 ≤ 1800 * w.vy ∧ 1800 * w.vy ≤ 16777216
  c : -16777216 ≤ 1800 * w.wx ∧ 1800 * w.wx ≤ 16777216
  d : -16777216 ≤ 1800 * w.wy ∧ 1800 * w.wy ≤ 16777216
theorem tcM_eq {s t : M6} (hs : fpt (m1 s) (m2 s) = true) (ht : fpt (m1 t) (m2 t) = true) : tcM B45 s t = ((sq (m1 s) (m2 s) (m1 t) (m2 t) - 5892 * 5892).sign, 0) := by
  show TcR (m1 s) (m2 s) 2946 (m1 t) (m2 t) 2946 = _
  unfold TcR cdOk
  rw [hs, ht]
  rfl
theorem sq_touch {w : Ways} {k : Nat} {s t : M6} (h1 : InvM w.px w.py (1800 * w.vx) (1800 * w.vy) k s) (h2 : InvM w.qx w.qy (1800 * w.wx) (1800 * w.wy) k t) :
    (w.u2 (k : Int) ≤ (5892 - 2) * 16 * ((5892 - 2) * 16) → sq (m1 s) (m2 s) (m1 t) (m2 t) ≤ 5892 * 5892) ∧ (¬ w.u2 (k : Int) ≤ (5892 + 2) * 16 * ((5892 + 2) * 16) → 5892 * 5892 < sq (m1 s) (m2 s) (m1 t) (m2 t)) := by
  have f : ∀ r : Int, -14400 ≤ r ∧ r ≤ 14399 → -14400 ≤ r ∧ r ≤ 14400 := fun r h => ⟨h.1, by omega⟩
  obtain ⟨ux, uy, ex, ey, e1, e2, e3, e4, e5⟩ := Roll.both h1.e1 h1.e2 h2.e1 h2.e2 (f _ h1.r5) (f _ h1.r6) (f _ h2.r5) (f _ h2.r6)
  have eu : w.u2 (k : Int) = ux * ux + uy * uy := by unfold Ways.u2 uWay; rw [e1, e2]
  have es : sq (m1 s) (m2 s) (m1 t) (m2 t) = (m1 s - m1 t) * (m1 s - m1 t) + (m2 s - m2 t) * (m2 s - m2 t) := by unfold sq; grind
  rw [eu, es]
  exact ⟨Roll.near_touch e3 e4 e5 (by decide), Roll.far_apart e3 e4 e5 (by decide)⟩
theorem sign_le {z : Int} (h : z ≤ 0) : z.sign ≤ 0 := by
  rcases Int.lt_trichotomy z 0 with h2 | h2 | h2
  · rw [Int.sign_eq_neg_one_of_neg h2]; decide
  · rw [h2]; decide
  · omega
theorem it_tm {w : Ways} (hw : w.Small) {near e f : Int} (hE : e = 0 → w.u2 near ≤ (5892 - 2) * 16 * ((5892 - 2) * 16)) (hF : f = 5 → ∀ k : Nat, k ≤ 16 → ¬ w.u2 (k : Int) ≤ (5892 + 2) * 16 * ((5892 + 2) * 16)) :
    ∀ (j k : Nat) (s t : M6) (m : Nat), k + j = 17 → j + 1 ≤ m → InvM w.px w.py (1800 * w.vx) (1800 * w.vy) k s → InvM w.qx w.qy (1800 * w.wx) (1800 * w.wy) k t →
    iter stg_tm m (hd_tm B45 s t near e f (k : Int)) = some (rt_tm true) ∨ iter stg_tm m (hd_tm B45 s t near e f (k : Int)) = some ex_tm
  | 0, k, s, t, m, hk, hm, _, _ => by
    cases m with
    | zero => omega
    | succ m =>
      refine .inr (iter_out ?_)
      show (st_tm B45 s t near e f (k : Int)).run = _
      unfold st_tm
      rw [decide_eq_false (show ¬ (k : Int) ≤ 16 by omega)]
      rfl
  | j + 1, k, s, t, m, hk, hm, h1, h2 => by
    cases m with
    | zero => omega
    | succ m =>
      obtain ⟨t1, t2⟩ := sq_touch h1 h2
      have e0 : stg_tm (hd_tm B45 s t near e f (k : Int)) = st_tm B45 s t near e f (k : Int) := rfl
      have hc := tcM_eq h1.fp h2.fp
      have ew : W64 ((k : Int) + 1) = ((k + 1 : Nat) : Int) := W64_id (by omega) (by omega)
      -- the step, once nothing is said against it
      have red : st_tm B45 s t near e f (k : Int) = nxt_tm B45 s t near e f (k : Int) := by
        have r2 : c2_tm B45 s t near e f (k : Int) = nxt_tm B45 s t near e f (k : Int) := by
          unfold c2_tm
          cases hf : f == 5 with
          | false => rfl
          | true =>
            have := t2 (hF (by simpa using hf) k (by omega))
            rw [hc, cond_true]
            show (bif decide ((sq (m1 s) (m2 s) (m1 t) (m2 t) - 5892 * 5892).sign ≤ 0) then rF else _) = _
            rw [Int.sign_eq_one_of_pos (by omega)]
            rfl
        unfold st_tm
        rw [decide_eq_true (show (k : Int) ≤ 16 by omega), hc, r2]
        show (bif (0 : Int) != 0 then rF else bif e == 0 then bif (k : Int) == near then bif decide ((sq (m1 s) (m2 s) (m1 t) (m2 t) - 5892 * 5892).sign > 0) then rF else _ else _ else _) = _
        cases he : e == 0 with
        | false => rfl
        | true =>
          cases hn : (k : Int) == near with
          | false => rfl
          | true =>
            have hn : (k : Int) = near := by simpa using hn
            have := t1 (by rw [hn]; exact hE (by simpa using he))
            rw [decide_eq_false (show ¬ (sq (m1 s) (m2 s) (m1 t) (m2 t) - 5892 * 5892).sign > 0 by have := sign_le (z := sq (m1 s) (m2 s) (m1 t) (m2 t) - 5892 * 5892) (by omega); omega)]
            rfl
      have h0 : stg_tm (hd_tm B45 s t near e f (k : Int)) = nxt_tm B45 s t near e f (k : Int) := e0.trans red
      rcases stp_inv h1 hw.a hw.b with a | ⟨a, a'⟩
      · refine .inl (iter_out ?_)
        rw [h0]
        unfold nxt_tm rtO
        rw [a]
        rfl
      · rcases stp_inv h2 hw.c hw.d with b | ⟨b, b'⟩
        · refine .inl (iter_out ?_)
          rw [h0]
          unfold nxt_tm rtO
          rw [a, b]
          rfl
        · have hs : (stg_tm (hd_tm B45 s t near e f (k : Int))).run = some (.inl (hd_tm B45 (flat6 (stp B45 s).1) (flat6 (stp B45 t).1) near e f ((k + 1 : Nat) : Int))) := by
            rw [h0]
            unfold nxt_tm
            rw [a, b, ew]
            rfl
          rw [iter_in hs]
          exact it_tm hw hE hF j (k + 1) _ _ m (by omega) (by omega) a' b'
theorem Fs_eq {px py qx qy vx vy wx wy r : Int} (hp : fpt px py = true) (hv : fpt vx vy = true) (hq : fpt qx qy = true) (hw : fpt wx wy = true) (hr : 0 ≤ r ∧ r ≤ 131072) :
    (∃ j : Nat, j < 17 ∧ Fs px py vx vy qx qy wx wy r 16 = ((j : Int), 0) ∧ (Ways.mk px py qx qy vx vy wx wy).u2 (j : Int) ≤ r * 16 * (r * 16)) ∨ (Fs px py vx vy qx qy wx wy r 16 = (0, 5) ∧ ∀ k : Nat, k ≤ 16 → ¬ (Ways.mk px py qx qy vx vy wx wy).u2 (k : Int) ≤ r * 16 * (r * 16)) := by
  have o1 : outB r 0 131072 = false := by
    unfold outB
    rw [decide_eq_false (show ¬ r < 0 by omega), decide_eq_false (show ¬ 131072 < r by omega)]; rfl
  have o2 : outB 16 1 1024 = false := by decide
  have hF : Fs px py vx vy qx qy wx wy r 16 = bif Nat.blt (jFs px py vx vy qx qy wx wy r 16) 17 then ((jFs px py vx vy qx qy wx wy r 16 : Int), 0) else (0, 5) := by
    unfold Fs
    rw [hp, hv, hq, hw, o1, o2]
    rfl
  rw [hF]
  have hm : 0 ≤ r * 16 := by omega
  by_cases h : jFs px py vx vy qx qy wx wy r 16 < 17
  · left
    refine ⟨jFs px py vx vy qx qy wx wy r 16, h, ?_, ?_⟩
    · rw [show Nat.blt (jFs px py vx vy qx qy wx wy r 16) 17 = true from Nat.ble_eq_true_of_le h]; rfl
    · have := (Roll.hit_iff hm).1 (Roll.fN_at (vx - wx) (vy - wy) (r * 16) 17 (16 * (px - qx)) (16 * (py - qy)) h)
      exact this
  · right
    refine ⟨?_, fun k hk => ?_⟩
    · have hb : Nat.blt (jFs px py vx vy qx qy wx wy r 16) 17 = false := by
        cases hb : Nat.blt (jFs px py vx vy qx qy wx wy r 16) 17 with
        | false => rfl
        | true => exact absurd (Nat.le_of_ble_eq_true hb) h
      rw [hb]; rfl
    · have := Roll.fN_none (vx - wx) (vy - wy) (r * 16) 17 (16 * (px - qx)) (16 * (py - qy)) h k (by omega)
      intro hu
      have h2 := (Roll.hit_iff hm).2 (show uWay px qx vx wx (k : Int) * uWay px qx vx wx (k : Int) + uWay py qy vy wy (k : Int) * uWay py qy vy wy (k : Int) ≤ _ from hu)
      have h3 : hit (uWay px qx vx wx (k : Int)) (uWay py qy vy wy (k : Int)) (r * 16) = false := this
      rw [h3] at h2
      cases h2
theorem go_ok {w : Ways} (hw : w.Small) (hp : fpt w.px w.py = true) (hq : fpt w.qx w.qy = true) {near e f : Int} (hE : e = 0 → w.u2 near ≤ (5892 - 2) * 16 * ((5892 - 2) * 16)) (hF : f = 5 → ∀ k : Nat, k ≤ 16 → ¬ w.u2 (k : Int) ≤ (5892 + 2) * 16 * ((5892 + 2) * 16))
    (hm : mq w.vx = 1800 * w.vx ∧ mq w.vy = 1800 * w.vy ∧ mq w.wx = 1800 * w.wx ∧ mq w.wy = 1800 * w.wy) : (go_tm w.px w.py w.qx w.qy w.vx w.vy w.wx w.wy near e f).sat (fun _ => True) := by
  obtain ⟨a, b, c, d⟩ := hm
  have i1 : InvM w.px w.py (1800 * w.vx) (1800 * w.vy) 0 (w.px, w.py, mq w.vx, mq w.vy, 0, 0, ()) := by
    refine ⟨hp, a, b, ?_, ?_, (show (-14400 : Int) ≤ 0 ∧ (0 : Int) ≤ 14399 by decide), (show (-14400 : Int) ≤ 0 ∧ (0 : Int) ≤ 14399 by decide)⟩
    · show Roll.D * (w.px - w.px) = _; simp [m5]
    · show Roll.D * (w.py - w.py) = _; simp [m6]
  have i2 : InvM w.qx w.qy (1800 * w.wx) (1800 * w.wy) 0 (w.qx, w.qy, mq w.wx, mq w.wy, 0, 0, ()) := by
    refine ⟨hq, c, d, ?_, ?_, (show (-14400 : Int) ≤ 0 ∧ (0 : Int) ≤ 14399 by decide), (show (-14400 : Int) ≤ 0 ∧ (0 : Int) ≤ 14399 by decide)⟩
    · show Roll.D * (w.qx - w.qx) = _; simp [m5]
    · show Roll.D * (w.qy - w.qy) = _; simp [m6]
  unfold go_tm
  rcases it_tm hw hE hF 17 0 _ _ 18 rfl (by omega) i1 i2 with e | e
  · have e : y_tm w.px w.py w.qx w.qy w.vx w.vy w.wx w.wy near _ f = _ := e
    rw [e]
    exact trivial
  · have e : y_tm w.px w.py w.qx w.qy w.vx w.vy w.wx w.wy near _ f = _ := e
    rw [e]
    exact trivial
theorem T_tm_ok {px py qx qy vx vy wx wy : Int} (hp : fpt px py = true) (hq : fpt qx qy = true) (h1 : -8192 ≤ vx ∧ vx ≤ 8192) (h2 : -8192 ≤ vy ∧ vy ≤ 8192) (h3 : -8192 ≤ wx ∧ wx ≤ 8192) (h4 : -8192 ≤ wy ∧ wy ≤ 8192) : (T_tm px py qx qy vx vy wx wy).sat (fun _ => True) := by
  have hv : fpt vx vy = true := decide_eq_true (by omega)
  have hw : fpt wx wy = true := decide_eq_true (by omega)
  have hm : ∀ v : Int, -8192 ≤ v ∧ v ≤ 8192 → mq v = 1800 * v := fun v h => by
    unfold mq
    rw [W64_id (n := 4 * 450) (by omega) (by omega), show (4 : Int) * 450 = 1800 from rfl, W64_id (by omega) (by omega)]
  have r1 : W64 (W64 (2 * 2946) - 2) = 5890 := by decide
  have r2 : W64 (W64 (2 * 2946) + 2) = 5894 := by decide
  unfold T_tm
  rw [r1, r2]
  have small : (Ways.mk px py qx qy vx vy wx wy).Small := ⟨by simp only; omega, by simp only; omega, by simp only; omega, by simp only; omega⟩
  have go : ∀ near e f : Int, (e = 0 → (Ways.mk px py qx qy vx vy wx wy).u2 near ≤ (5892 - 2) * 16 * ((5892 - 2) * 16)) → (f = 5 → ∀ k : Nat, k ≤ 16 → ¬ (Ways.mk px py qx qy vx vy wx wy).u2 (k : Int) ≤ (5892 + 2) * 16 * ((5892 + 2) * 16)) → (go_tm px py qx qy vx vy wx wy near e f).sat (fun _ => True) :=
    fun near e f a b => go_ok small hp hq a b ⟨hm vx h1, hm vy h2, hm wx h3, hm wy h4⟩
  have go2 : ∀ near e : Int, (e = 0 → (Ways.mk px py qx qy vx vy wx wy).u2 near ≤ (5892 - 2) * 16 * ((5892 - 2) * 16)) → (go2_tm px py qx qy vx vy wx wy near e (Fs px py vx vy qx qy wx wy 5894 16).2).sat (fun _ => True) := by
    intro near e a
    rcases Fs_eq (r := 5894) hp hv hq hw (by omega) with ⟨j, _, e1, _⟩ | ⟨e1, h⟩
    · rw [e1]
      exact go near e 0 a (fun h => by cases h)
    · rw [e1]
      exact go near e 5 a (fun _ k hk hu => h k hk hu)
  rcases Fs_eq (r := 5890) hp hv hq hw (by omega) with ⟨j, _, e1, hu⟩ | ⟨e1, h⟩
  · rw [e1]
    exact go2 (j : Int) 0 (fun _ => hu)
  · rw [e1]
    exact go2 0 5 (fun h => by cases h)
theorem topMeeting_sat : LawSat X_topMeeting 5 cs_topMeeting 12 := lawSat 12 TY_topMeeting TY_topMeeting_eq (fun y hy => by
  obtain ⟨⟨d1, d2, ⟨⟩⟩, a, b, c, d, e, f, ⟨⟩⟩ := y
  obtain ⟨⟨h1, h2, _⟩, h3, h4, h5, h6, h7, h8, _⟩ := hy
  have h1 : (0 : Int) ≤ d1 ∧ d1 ≤ 65535 := h1
  have h2 : (0 : Int) ≤ d2 ∧ d2 ≤ 65535 := h2
  have h3 : (-32768 : Int) ≤ a ∧ a ≤ 32767 := h3
  have h4 : (-32768 : Int) ≤ b ∧ b ≤ 32767 := h4
  have h5 : (-32768 : Int) ≤ c ∧ c ≤ 32767 := h5
  have h6 : (-32768 : Int) ≤ d ∧ d ≤ 32767 := h6
  have h7 : (-32768 : Int) ≤ e ∧ e ≤ 32767 := h7
  have h8 : (-32768 : Int) ≤ f ∧ f ≤ 32767 := h8
  have key : ∀ d1 d2 a b c d e f : Int, (0 ≤ d1 ∧ d1 ≤ 65535) → (0 ≤ d2 ∧ d2 ≤ 65535) → (-32768 ≤ a ∧ a ≤ 32767) → (-32768 ≤ b ∧ b ≤ 32767) → (-32768 ≤ c ∧ c ≤ 32767) → (-32768 ≤ d ∧ d ≤ 32767) → (-32768 ≤ e ∧ e ≤ 32767) → (-32768 ≤ f ∧ f ≤ 32767) →
      (T_tm (dX d1) (dY d2) (W64 (dX d1 + W64 a)) (W64 (dY d2 + W64 b)) (q4 c) (q4 d) (q4 e) (q4 f)).sat (fun _ => True) := by
    intro d1 d2 a b c d e f h1 h2 h3 h4 h5 h6 h7 h8
    have fx : 0 ≤ dX d1 ∧ dX d1 ≤ 98303 := by
      unfold dX
      rw [W64_id (n := d1) (by omega) (by omega), W64_id (n := d1 * 3) (by omega) (by omega), Int.tdiv_eq_ediv_of_nonneg (by omega), W64_id (by omega) (by omega)]
      omega
    have fy : 0 ≤ dY d2 ∧ dY d2 ≤ 196605 := by
      unfold dY
      rw [W64_id (n := d2) (by omega) (by omega), W64_id (n := d2 * 3) (by omega) (by omega)]
      omega
    have fq : ∀ v : Int, -32768 ≤ v ∧ v ≤ 32767 → -8192 ≤ q4 v ∧ q4 v ≤ 8192 := by
      intro v hv
      unfold q4
      have : -8192 ≤ Int.tdiv v 4 ∧ Int.tdiv v 4 ≤ 8192 := by
        rcases Int.le_total 0 v with h | h
        · rw [Int.tdiv_eq_ediv_of_nonneg h]; omega
        · have e : v.tdiv 4 = -((-v).tdiv 4) := by rw [Int.neg_tdiv, Int.neg_neg]
          rw [e, Int.tdiv_eq_ediv_of_nonneg (by omega)]; omega
      rw [W64_id (n := v) (by omega) (by omega), W64_id (by omega) (by omega)]
      exact this
    rw [W64_id (n := a) (by omega) (by omega), W64_id (n := b) (by omega) (by omega), W64_id (n := dX d1 + a) (by omega) (by omega), W64_id (n := dY d2 + b) (by omega) (by omega)]
    exact T_tm_ok (decide_eq_true (by omega)) (decide_eq_true (by omega)) (fq c h5) (fq d h6) (fq e h7) (fq f h8)
  exact key d1 d2 a b c d e f h1 h2 h3 h4 h5 h6 h7 h8)
end V
end Go.Proofs.Ytialgmhhkbdegaa
