/- The law TurfNear: plain part, and its walk by the evaluator. For all arguments the law returns true. -/
import Derived.Test.YthgmpjljlpacgaaMf
import Derived.Test.YthgmpjljlpacgaaTl
import Derived.Test.YthgmpjljlpacgaaLb
namespace Go.Proofs.Ythgmpjljlpacgaa
open Go.RowKit Ev
theorem is_TurfNear : FnIs Try.prog (9, Try.f9) := ⟨Try.func9, by kernel_rfl, by kernel_rfl⟩
theorem is_move : FnIs Try.prog (28, Try.f28) := ⟨Try.func28, by kernel_rfl, by kernel_rfl⟩
def g_move : PureT
  | [.agg [.int .i64 x, .int .i64 y], .agg [.int .i16 u, .int .i16 v]] => some (fpt x y, .agg [.int .i64 (x + u), .int .i64 (y + v)])
  | _ => none
theorem p_move : PureOk Try.prog 28 g_move := by
  refine pureOk_of_ev (ctx_ok mixed puOk_nil (fns_cons is_move fns_nil)) 2 fun xs x hw h => ?_
  unfold g_move at h
  split at h
  · rename_i x y u v
    simp only [Option.some.injEq, Prod.mk.injEq] at h
    obtain ⟨hok, rfl⟩ := h
    have c := fpt_bd hok
    simp only [WFL, WF, and_true] at hw
    obtain ⟨_, hu, hv⟩ := hw
    have hu' := inK_i16 hu
    have hv' := inK_i16 hv
    refine ⟨rfl, ?_⟩
    have e : evFn (ctx Try.prog [] [(28, Try.f28)]) 2 28 [.agg [.int .i64 x, .int .i64 y], .agg [.int .i16 u, .int .i16 v]] noHeap 0 outK = .leaf (.agg [.int .i64 (IntKind.i64.wrap (x + IntKind.i64.wrap u)), .int .i64 (IntKind.i64.wrap (y + IntKind.i64.wrap v))]) := by kernel_rfl
    rw [e, wrap_id (n := u) (by omega) (by omega), wrap_id (n := v) (by omega) (by omega), wrap_id (n := x + u) (by omega) (by omega), wrap_id (n := y + v) (by omega) (by omega)]
    exact sat_leaf rfl
  · simp at h
def pl_near : List (Nat × PureT) := [(15, g_at), (28, g_move), (27, g_Lies), (29, g_Cuts), (14, g_fine)]
theorem pu_near : PuOk Try.prog pl_near := puOk_cons is_at.plain p_at (puOk_cons is_move.plain p_move (puOk_cons is_Lies.plain p_Lies (puOk_cons is_Cuts.plain p_Cuts (puOk_cons is_fine.plain p_fine puOk_nil))))

def nearEnd (ax ay bx bY px py n h : Int) : Tree Unit :=
  bif decide (n < 1) then .leaf () else bif decide (n > 65536) then .leaf () else
  bif (CtR ax ay bx bY px py n).2 == 0 then bif (CtR ax ay bx bY px py n).1 == decide (h < 0) then .leaf () else .fail else .fail
def near3 (ax ay bx bY px py n h : Int) : Tree Unit :=
  bif h == 0 then bif n == 0 then bif ax == bx && (ay == bY && true) then bif !(ax == px && (ay == py && true)) then .fail else nearEnd ax ay bx bY px py n h else nearEnd ax ay bx bY px py n h else nearEnd ax ay bx bY px py n h else nearEnd ax ay bx bY px py n h
def near2 (ax ay bx bY px py n h Q X : Int) : Tree Unit :=
  bif decide (h > 0) then bif decide (Q ≤ X) then .fail else near3 ax ay bx bY px py n h else near3 ax ay bx bY px py n h
def near1 (ax ay bx bY px py n h Q X : Int) : Tree Unit :=
  bif decide (h ≥ 0) then bif decide (Q < X) then .fail else near2 ax ay bx bY px py n h Q X else near2 ax ay bx bY px py n h Q X
def qN (a b p k : Int) : Int := IntKind.i64.wrap (IntKind.i64.wrap (15 * IntKind.i64.wrap (a - p)) + IntKind.i64.wrap (k * IntKind.i64.wrap (b - a)))
def t_near (ax ay bx bY px py n k u v : Int) : Tree Unit :=
  bif fpt ax ay then bif fpt bx bY then bif fpt px py then
  bif IntKind.i64.wrap (IntKind.i64.wrap ((LsR ax ay bx bY px py n).2 + (LsR bx bY ax ay px py n).2) + (LsR (ax + u) (ay + v) (bx + u) (bY + v) (px + u) (py + v) n).2) != 0 then .fail else
  bif (LsR ax ay bx bY px py n).1 != (LsR bx bY ax ay px py n).1 then .fail else
  bif (LsR ax ay bx bY px py n).1 != (LsR (ax + u) (ay + v) (bx + u) (bY + v) (px + u) (py + v) n).1 then .fail else
  near1 ax ay bx bY px py n (LsR ax ay bx bY px py n).1 (IntKind.i64.wrap (IntKind.i64.wrap (qN ax bx px k * qN ax bx px k) + IntKind.i64.wrap (qN ay bY py k * qN ay bY py k))) (IntKind.i64.wrap (IntKind.i64.wrap (IntKind.i64.wrap (15 * n) * 15) * n))
  else .fail else .fail else .fail
def nN (s r : Int) : Int := IntKind.i64.wrap ((IntKind.i64.wrap (IntKind.i64.wrap (3 * IntKind.i64.wrap r) * IntKind.i64.wrap (1 + (IntKind.i64.wrap s).tmod 64))).tdiv 2)
theorem near_tree (ax ay bx bY px py s r k u v : Int) : evFn (ctx Try.prog pl_near [(9, Try.f9)]) 3 9 [.agg [.int .i16 ax, .int .i16 ay], .agg [.int .i16 bx, .int .i16 bY], .agg [.int .i16 px, .int .i16 py], .int .u8 s, .int .u16 r, .int .u8 k, .agg [.int .i16 u, .int .i16 v]] noHeap 0 lawK =
    t_near (ax * sc s) (ay * sc s) (bx * sc s) (bY * sc s) (px * sc s) (py * sc s) (nN s r) ((IntKind.i64.wrap k).tmod 16) u v := by kernel_rfl
theorem near_end_ok (ax ay bx bY px py n : Int) (f1 : fpt ax ay = true) (f2 : fpt bx bY = true) (f3 : fpt px py = true) : (nearEnd ax ay bx bY px py n (LsV ax ay bx bY px py n)).sat (fun _ => True) := by
  unfold nearEnd
  refine sat_cond (fun _ => trivial) (fun h1 => sat_cond (fun _ => trivial) (fun h2 => ?_))
  have h1' := of_decide_eq_false h1
  have h2' := of_decide_eq_false h2
  have hc : cdOk px py n = true := by
    unfold cdOk outB; rw [f3]; simp; omega
  have hC : CtR ax ay bx bY px py n = (decide (LsV ax ay bx bY px py n < 0), 0) := by unfold CtR; rw [f1, f2, hc]; rfl
  rw [hC]
  simp only [beq_self_eq_true, cond_true]
  trivial
theorem near_law (ax ay bx bY px py n k u v : Int) (s1 : smol ax) (s2 : smol ay) (s3 : smol bx) (s4 : smol bY) (s5 : smol px) (s6 : smol py) (hn0 : 0 ≤ n) (hn : n ≤ 8388608) (hk0 : 0 ≤ k) (hk : k ≤ 15) (hu : inK .i16 u) (hv : inK .i16 v) :
    (t_near ax ay bx bY px py n k u v).sat (fun _ => True) := by
  have f1 := smol_fpt s1 s2
  have f2 := smol_fpt s3 s4
  have f3 := smol_fpt s5 s6
  have hu' := inK_i16 hu
  have hv' := inK_i16 hv
  unfold smol at s1 s2 s3 s4 s5 s6
  have g1 : fpt (ax + u) (ay + v) = true := by unfold fpt; exact decide_eq_true (by omega)
  have g2 : fpt (bx + u) (bY + v) = true := by unfold fpt; exact decide_eq_true (by omega)
  have g3 : fpt (px + u) (py + v) = true := by unfold fpt; exact decide_eq_true (by omega)
  have o : outB n 0 8388608 = false := by unfold outB; simp; omega
  have e1 : LsR ax ay bx bY px py n = (LsV ax ay bx bY px py n, 0) := by unfold LsR; rw [f1, f2, f3, o]; rfl
  have e2 : LsR bx bY ax ay px py n = (LsV ax ay bx bY px py n, 0) := by unfold LsR; rw [f1, f2, f3, o, ls_back]; rfl
  have e3 : LsR (ax + u) (ay + v) (bx + u) (bY + v) (px + u) (py + v) n = (LsV ax ay bx bY px py n, 0) := by unfold LsR; rw [g1, g2, g3, o, ls_move]; rfl
  have bq : ∀ a b p : Int, smol a → smol b → smol p → qN a b p k = 15 * (a - p) + k * (b - a) ∧ -134217728 ≤ qN a b p k ∧ qN a b p k ≤ 134217728 := by
    intro a b p ha hb hp
    unfold smol at ha hb hp
    have m := mul_bd (a := k) (b := b - a) (A := 15) (B := 4194304) (by omega) (by omega) (by omega) (by omega)
    unfold qN
    rw [wrap_id (n := a - p) (by omega) (by omega), wrap_id (n := b - a) (by omega) (by omega), wrap_id (n := 15 * (a - p)) (by omega) (by omega), wrap_id (n := k * (b - a)) (by omega) (by omega), wrap_id (by omega) (by omega)]
    omega
  obtain ⟨q1, q2, q3⟩ := bq ax bx px s1 s3 s5
  obtain ⟨q4, q5, q6⟩ := bq ay bY py s2 s4 s6
  have m1 := mul_bd (a := qN ax bx px k) (b := qN ax bx px k) (A := 134217728) (B := 134217728) (by omega) (by omega) (by omega) (by omega)
  have m2 := mul_bd (a := qN ay bY py k) (b := qN ay bY py k) (A := 134217728) (B := 134217728) (by omega) (by omega) (by omega) (by omega)
  have m3 := mul_bd (a := n) (b := n) (A := 8388608) (B := 8388608) (by omega) (by omega) (by omega) (by omega)
  have eX : IntKind.i64.wrap (IntKind.i64.wrap (IntKind.i64.wrap (15 * n) * 15) * n) = 225 * (n * n) := by
    have g : 15 * n * 15 * n = 225 * (n * n) := by grind
    rw [wrap_id (n := 15 * n) (by omega) (by omega), wrap_id (n := 15 * n * 15) (by omega) (by omega), g, wrap_id (by omega) (by omega)]
  have eQ : IntKind.i64.wrap (IntKind.i64.wrap (qN ax bx px k * qN ax bx px k) + IntKind.i64.wrap (qN ay bY py k * qN ay bY py k)) = farQ ax ay bx bY px py k := by
    rw [wrap_id (n := qN ax bx px k * qN ax bx px k) (by omega) (by omega), wrap_id (n := qN ay bY py k * qN ay bY py k) (by omega) (by omega), wrap_id (by omega) (by omega), q1, q4]; rfl
  obtain ⟨far1, far2⟩ := far_ls ax ay bx bY px py n k hk0 hk
  have hend := near_end_ok ax ay bx bY px py n f1 f2 f3
  have h3 : (near3 ax ay bx bY px py n (LsV ax ay bx bY px py n)).sat (fun _ => True) := by
    unfold near3
    refine sat_cond (fun c1 => sat_cond (fun c2 => sat_cond (fun c3 => sat_cond (fun c4 => ?_) (fun _ => hend)) (fun _ => hend)) (fun _ => hend)) (fun _ => hend)
    exfalso
    simp only [beq_iff_eq] at c1 c2
    simp only [Bool.and_true, Bool.and_eq_true, beq_iff_eq] at c3
    simp only [Bool.and_true, Bool.not_eq_true', Bool.and_eq_false_iff, beq_eq_false_iff_ne] at c4
    have ha : alg ax ay bx bY px py = 0 := by unfold alg; rw [← c3.1, ← c3.2]; simp
    have hp := sq_pos (px := ax) (py := ay) (qx := px) (qy := py) (by rintro ⟨x, y⟩; rcases c4 with c | c; exact c x; exact c y)
    unfold LsV at c1
    rw [ha, c2] at c1
    have : (sq ax ay px py).sign = 0 := by simpa using c1
    have := Int.sign_eq_one_of_pos (a := sq ax ay px py) (by omega)
    omega
  unfold t_near
  rw [f1, f2, f3, e1, e2, e3, eX, eQ]
  refine sat_cond (fun _ => sat_cond (fun _ => sat_cond (fun _ => sat_cond (fun c => by simp [IntKind.wrap, IntKind.bits, IntKind.signed] at c) (fun _ => sat_cond (fun c => by simp at c) (fun _ => sat_cond (fun c => by simp at c) (fun _ => ?_)))) (fun c => by simp at c)) (fun c => by simp at c)) (fun c => by simp at c)
  have h2 : (near2 ax ay bx bY px py n (LsV ax ay bx bY px py n) (farQ ax ay bx bY px py k) (225 * (n * n))).sat (fun _ => True) := by
    unfold near2
    refine sat_cond (fun c => sat_cond (fun d => ?_) (fun _ => h3)) (fun _ => h3)
    have := far2 (of_decide_eq_true c); have := of_decide_eq_true d; omega
  unfold near1
  refine sat_cond (fun c => sat_cond (fun d => ?_) (fun _ => h2)) (fun _ => h2)
  have := far1 (of_decide_eq_true c); have := of_decide_eq_true d; omega
theorem near_walk (ax ay bx bY px py s r k u v : Int) (h0 : inK .i16 ax) (h1 : inK .i16 ay) (h2 : inK .i16 bx) (h3 : inK .i16 bY) (h4 : inK .i16 px) (h5 : inK .i16 py) (hs : inK .u8 s) (hr : inK .u16 r) (hk : inK .u8 k) (hu : inK .i16 u) (hv : inK .i16 v) (w : World) :
    Calls Try.prog 9 #[.agg #[.int .i16 ax, .int .i16 ay], .agg #[.int .i16 bx, .int .i16 bY], .agg #[.int .i16 px, .int .i16 py], .int .u8 s, .int .u16 r, .int .u8 k, .agg #[.int .i16 u, .int .i16 v]] w fun e w' => e = .returned (.bool true) ∧ Below w.heap.size w w' := by
  refine law_calls (xs := [.agg [.int .i16 ax, .int .i16 ay], .agg [.int .i16 bx, .int .i16 bY], .agg [.int .i16 px, .int .i16 py], .int .u8 s, .int .u16 r, .int .u8 k, .agg [.int .i16 u, .int .i16 v]]) (us := [.agg #[.int .i16 ax, .int .i16 ay], .agg #[.int .i16 bx, .int .i16 bY], .agg #[.int .i16 px, .int .i16 py], .int .u8 s, .int .u16 r, .int .u8 k, .agg #[.int .i16 u, .int .i16 v]]) (ctx_ok mixed pu_near (fns_cons is_TurfNear fns_nil)) 3 ?_ ?_
  · simp only [repL_consI, repL_nilI, rep_aggI, rep_intI, and_true]
    exact ⟨⟨h0, h1⟩, ⟨h2, h3⟩, ⟨h4, h5⟩, hs, hr, hk, hu, hv⟩
  · rw [near_tree]
    have hs' := inK_u8 hs
    have hk' := inK_u8 hk
    have hr' : 0 ≤ r ∧ r ≤ 65535 := hr
    have b := sc_bd hs
    have k1 := tm_bd k 16 (by omega)
    have k2 := Int.tmod_nonneg 16 hk'.1
    have hN : 0 ≤ nN s r ∧ nN s r ≤ 8388608 := by
      unfold nN
      unfold sc at b
      have m := mul_bd (a := 3 * r) (b := 1 + s.tmod 64) (A := 196605) (B := 64) (by omega) (by omega) (by omega) (by omega)
      have p := Int.mul_nonneg (show 0 ≤ 3 * r by omega) (show 0 ≤ 1 + s.tmod 64 by omega)
      rw [wrap_id (n := r) (by omega) (by omega), wrap_id (n := s) (by omega) (by omega), wrap_id (n := 3 * r) (by omega) (by omega), wrap_id (n := 1 + s.tmod 64) (by omega) (by omega), wrap_id (n := 3 * r * (1 + s.tmod 64)) (by omega) (by omega), Int.tdiv_eq_ediv_of_nonneg p, wrap_id (by omega) (by omega)]
      omega
    rw [wrap_id (n := k) (by omega) (by omega)]
    exact near_law _ _ _ _ _ _ _ _ _ _ (smol_sc h0 hs) (smol_sc h1 hs) (smol_sc h2 hs) (smol_sc h3 hs) (smol_sc h4 hs) (smol_sc h5 hs) hN.1 hN.2 k2 (by omega) hu hv
end Go.Proofs.Ythgmpjljlpacgaa
