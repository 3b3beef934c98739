/- Chapter 11: the sides of all matches, in the reference. -/
import Derived.Test.YtgchccljmjmibaaEig
import Derived.Test.YtgchccljmjmibaaGag
import Derived.Test.YtgchccljmjmibaaBb
namespace Go.Proofs.Ytgchccljmjmibaa
open Go.RowKit
namespace V
namespace Ev
/-! who goes on -/
abbrev s_win : PureT := spec [.sl cSc, cI, cPq] [cI] (fun x => chkV x.1 == 0) (fun x => (winV (cntM x.1 x.2.1) x.2.2.1.1 x.2.2.1.2.1, ()))
def T_win (l : List (TCT cSc)) (n a b : Int) : Tree (TCTs [cI]) := bif a == -1 then .leaf (b, ()) else bif b == -1 then .leaf (a, ()) else bif a == -2 then .leaf (-2, ()) else bif b == -2 then .leaf (-2, ()) else bif !(cntM l n).isSome then .leaf (-2, ()) else bif decide ((or0 (cntM l n)).2.2.1 = 0) then .leaf (a, ()) else bif decide ((or0 (cntM l n)).2.2.1 = 1) then .leaf (b, ()) else .fail
theorem T_win_ok (l : List (TCT cSc)) (n a b : Int) (hm : W01 (cntM l)) : (T_win l n a b).sat (fun y => y = (winV (cntM l n) a b, ())) := by
  unfold T_win winV bne
  cases a == -1 with
  | true => exact rfl
  | false =>
    cases b == -1 with
    | true => exact rfl
    | false =>
      simp only [cond_false]
      cases a == -2 with
      | true => simp only [cond_true, Bool.not_true, Bool.false_and, Bool.and_false, cond_false]; exact rfl
      | false =>
        cases b == -2 with
        | true => simp only [cond_true, cond_false, Bool.not_true, Bool.and_false]; exact rfl
        | false =>
          simp only [cond_false, Bool.not_false, Bool.and_true]
          cases ho : cntM l n with
          | none => exact rfl
          | some s =>
            simp only [Option.isSome_some, Bool.not_true, cond_false, cond_true]
            rcases hm _ _ ho with h | h
            · rw [show (or0 (some s)).2.2.1 = s.2.2.1 from rfl, h]
              exact rfl
            · rw [show (or0 (some s)).2.2.1 = s.2.2.1 from rfl, h]
              exact rfl
theorem q_win : PureOk Try.prog 72 s_win := q_by (ctxU_ok (u := 3) mixed puRk (fns_cons is_rwin fns_nil)) 6 (fun x => T_win x.1 x.2.1 x.2.2.1.1 x.2.2.1.2.1) (fun x => by kernel_rfl) fun x h hw => T_win_ok x.1 x.2.1 x.2.2.1.1 x.2.2.1.2.1 (W01_cnt hw.1 h)
noncomputable def plWi : List (Nat × PureT) := (72, s_win) :: plRk
theorem puWi : PuOk Try.prog plWi := puOk_cons is_rwin.plain q_win puRk
noncomputable def XWi : Ctx := ctx Try.prog plWi []
theorem XWi_ok : CtxOk XWi := ctx_ok mixed puWi fns_nil
/-! a level -/
def L_r1 : Lay := { keys := [1, 5, 6, 7, 8], ks := [.d (.sl cSc), .o 45 cPq, .d (.sl cI), .o 3 cI, .d cI], bs := [], n := 44, nx := 2000, marks := [] }
def R_r1 : Lay := { keys := [1, 5, 7], ks := [.d (.sl cSc), .o 45 cPq, .o 3 cI], bs := [], n := 44, nx := 2000, marks := [] }
def E_r1 : XE → Lay := fun _ => R_r1
abbrev cR1' := L_r1.T ⊕ Left' E_r1
def hd_r1 (l : List (TCT cSc)) (out : List (TCT cPq)) (now next : List Int) (i : Int) : L_r1.T := ((l, out, now, next, i, ()), ())
def ex_r1 (l : List (TCT cSc)) (out : List (TCT cPq)) (next : List Int) : Left' E_r1 := ⟨.exit 2, ((l, out, next, ()), ())⟩
def w_r1 (l : List (TCT cSc)) (out : List (TCT cPq)) (now next : List Int) (i a b w : Int) : Tree cR1' := bif appOk next [w] 8 then bif appOk out [(a, b, ())] 16 then .leaf (.inl (hd_r1 l (out ++ [(a, b, ())]) now (next ++ [w]) (W64 (i + 2)))) else .fail else .fail
def ab_r1 (l : List (TCT cSc)) (out : List (TCT cPq)) (now next : List Int) (i a b : Int) : Tree cR1' := bif chkV l == 0 then w_r1 l out now next i a b (winV (cntM l (out.length : Int)) a b) else .fail
def sm_r1 (l : List (TCT cSc)) (out : List (TCT cPq)) (now next : List Int) (i : Int) : Tree cR1' := bif decide (i < (now.length : Int)) then inN now.length i (inN now.length (W64 (i + 1)) (ab_r1 l out now next i (getA now (Int.toNat i) 0) (getA now (Int.toNat (W64 (i + 1))) 0))) else .leaf (.inr (ex_r1 l out next))
def st_r1 (g : L_r1.T) : Tree cR1' := sm_r1 g.1.1 g.1.2.1 g.1.2.2.1 g.1.2.2.2.1 g.1.2.2.2.2.1
def fu_r1 (g : L_r1.T) : Nat := (g.1.2.2.1 : List Int).length + 1
theorem e_r1 (g : L_r1.T) : evC Try.prog (evFn XWi 6) XWi.pures 71 XWi.u (fun _ => none) lb_rs1 (L_r1.of g) (stepOut L_r1 E_r1) = st_r1 g := by kernel_rfl
/-- a level: who goes on, and the sides -/
def lv (m : cMp) : List Int → List Int → List (TCT cPq) → List Int × List (TCT cPq)
  | a :: b :: r, next, out => lv m r (next ++ [winV (m (out.length : Int)) a b]) (out ++ [(a, b, ())])
  | _, next, out => (next, out)
theorem lv_len (m : cMp) : ∀ (j : Nat) (now next : List Int) (out : List (TCT cPq)), now.length = 2 * j → (lv m now next out).1.length = next.length + j ∧ (lv m now next out).2.length = out.length + j
  | 0, [], next, out, _ => ⟨rfl, rfl⟩
  | j + 1, a :: b :: r, next, out, h => by
    have := lv_len m j r (next ++ [winV (m (out.length : Int)) a b]) (out ++ [(a, b, ())]) (by simp at h; omega)
    rw [show lv m (a :: b :: r) next out = lv m r (next ++ [winV (m (out.length : Int)) a b]) (out ++ [(a, b, ())]) from rfl, this.1, this.2]
    simp; omega
  | 0, _ :: _, _, _, h => by simp at h
  | j + 1, [], _, _, h => by simp at h
  | j + 1, [_], _, _, h => by simp at h; omega
theorem siQ_lv (m : cMp) : ∀ (j d : Nat) (now next : List Int) (out : List (TCT cPq)), now.length = 2 * j → siQ m (j + d) (now ++ next) out = siQ m d (lv m now next out).1 (lv m now next out).2
  | 0, d, [], next, out, _ => by rw [Nat.zero_add]; rfl
  | j + 1, d, a :: b :: r, next, out, h => by
    have := siQ_lv m j d r (next ++ [winV (m (out.length : Int)) a b]) (out ++ [(a, b, ())]) (by simp at h; omega)
    rw [show lv m (a :: b :: r) next out = lv m r (next ++ [winV (m (out.length : Int)) a b]) (out ++ [(a, b, ())]) from rfl, ← this, show j + 1 + d = (j + d) + 1 by omega, ← List.append_assoc]
    rfl
  | 0, _, _ :: _, _, _, h => by simp at h
  | j + 1, _, [], _, _, h => by simp at h
  | j + 1, _, [_], _, _, h => by simp at h; omega
theorem r1_run {l : List (TCT cSc)} (hc : (chkV l == 0) = true) (now : List Int) : ∀ (j : Nat) (i : Nat) (next : List Int) (out : List (TCT cPq)) (fuel : Nat), i + 2 * j = now.length → now.length ≤ 64 → next.length + j ≤ 100 → out.length + j ≤ 100 → j < fuel →
    iter st_r1 fuel (hd_r1 l out now next i) = some (ex_r1 l (lv (cntM l) (now.drop i) next out).2 (lv (cntM l) (now.drop i) next out).1)
  | 0, i, next, out, fuel + 1, h, _, _, _, _ => by
    rw [List.drop_eq_nil_of_le (by omega)]
    refine iter_out ?_
    show (sm_r1 l out now next i).run = _
    unfold sm_r1
    rw [decide_eq_false (show ¬ ((i : Int) < (now.length : Int)) by omega)]
    rfl
  | j + 1, i, next, out, fuel + 1, h, h6, hn, ho, hf => by
    have h0 : i < now.length := by omega
    have h1 : i + 1 < now.length := by omega
    have hd : now.drop i = now[i] :: now[i + 1] :: now.drop (i + 2) := by rw [List.drop_eq_getElem_cons h0, List.drop_eq_getElem_cons h1]
    have hrun : (st_r1 (hd_r1 l out now next i)).run = some (.inl (hd_r1 l (out ++ [(now[i], now[i + 1], ())]) now (next ++ [winV (cntM l (out.length : Int)) now[i] now[i + 1]]) ((i + 2 : Nat) : Int))) := by
      show (sm_r1 l out now next i).run = _
      unfold sm_r1
      rw [decide_eq_true (show ((i : Int) < (now.length : Int)) by omega), W64_id (n := (i : Int) + 1) (by omega) (by omega), inN_ok (by omega), inN_ok (by omega)]
      simp only [cond_true]
      rw [show Int.toNat (i : Int) = i by omega, show Int.toNat ((i : Int) + 1) = i + 1 by omega, getA_lt h0, getA_lt h1]
      unfold ab_r1
      rw [hc]
      unfold w_r1
      rw [app_ok (h := next) (by simp; omega) (by omega), app_ok (h := out) (by simp; omega) (by omega), W64_id (n := (i : Int) + 2) (by omega) (by omega)]
      rfl
    rw [iter_in hrun, r1_run hc now j (i + 2) _ _ fuel (by omega) h6 (by simp; omega) (by simp; omega) (by omega), hd]
    rfl
/-! the levels -/
def L_r0 : Lay := { keys := [1, 5, 6], ks := [.d (.sl cSc), .o 45 cPq, .d (.sl cI)], bs := [], n := 44, nx := 1000, marks := [] }
def R_r0 : Lay := { keys := [5], ks := [.o 45 cPq], bs := [], n := 44, nx := 1000, marks := [] }
def E_r0 : XE → Lay := fun _ => R_r0
abbrev cR0' := L_r0.T ⊕ Left' E_r0
noncomputable def Lt_r0 : LoopT := fun k => bif Nat.beq k 6 then some (loopSum L_r1 E_r1 (finX [.exit 2] st_r1 fu_r1)) else none
def hd_r0 (l : List (TCT cSc)) (out : List (TCT cPq)) (now : List Int) : L_r0.T := ((l, out, now, ()), ())
def ex_r0 (out : List (TCT cPq)) : Left' E_r0 := ⟨.exit 0, ((out, ()), ())⟩
def y_r0 (y : Option (Left' E_r1)) : Tree cR0' := bif isE (.exit 2) y then .leaf (.inl (hd_r0 (valE (.exit 2) y).1.1 (valE (.exit 2) y).1.2.1 (valE (.exit 2) y).1.2.2.1)) else .fail
def sm_r0 (l : List (TCT cSc)) (out : List (TCT cPq)) (now : List Int) : Tree cR0' := bif decide ((now.length : Int) > 1) then y_r0 (iter st_r1 (now.length + 1) (hd_r1 l out now [] 0)) else .leaf (.inr (ex_r0 out))
def st_r0 (g : L_r0.T) : Tree cR0' := sm_r0 g.1.1 g.1.2.1 g.1.2.2.1
def fu_r0 (g : L_r0.T) : Nat := (g.1.2.2.1 : List Int).length + 1
theorem e_r0 (g : L_r0.T) : evC Try.prog (evFn XWi 6) XWi.pures 71 XWi.u Lt_r0 lb_rs0 (L_r0.of g) (stepOutZ [6] L_r0 E_r0) = st_r0 g := by kernel_rfl
end Ev
end V
end Go.Proofs.Ytgchccljmjmibaa
/-! Chapter 11: Sides and Champion, in the reference; the law EventSheets. -/
namespace Go.Proofs.Ytgchccljmjmibaa
open Go.RowKit
namespace V
namespace Ev
theorem r0_run {l : List (TCT cSc)} (hc : (chkV l == 0) = true) : ∀ (k : Nat) (now : List Int) (out : List (TCT cPq)) (fuel : Nat), now.length = 2 ^ k → now.length ≤ 64 → out.length + now.length ≤ 100 → k < fuel →
    iter st_r0 fuel (hd_r0 l out now) = some (ex_r0 (siQ (cntM l) (now.length - 1) now out).2)
  | 0, now, out, fuel + 1, h, _, _, _ => by
    have h1 : now.length = 1 := by simpa using h
    refine iter_out ?_
    show (sm_r0 l out now).run = _
    unfold sm_r0
    rw [h1]
    rfl
  | k + 1, now, out, fuel + 1, h, h6, ho, hf => by
    have hp : 2 ^ (k + 1) = 2 * 2 ^ k := by rw [Nat.pow_succ]; omega
    have hpos : 0 < 2 ^ k := Nat.two_pow_pos k
    have hrun : (st_r0 (hd_r0 l out now)).run = some (.inl (hd_r0 l (lv (cntM l) now [] out).2 (lv (cntM l) now [] out).1)) := by
      show (sm_r0 l out now).run = _
      unfold sm_r0
      rw [decide_eq_true (show ((now.length : Int) > 1) by omega)]
      have := r1_run hc now (2 ^ k) 0 [] out (now.length + 1) (by omega) h6 (by simp; omega) (by omega) (by omega)
      rw [show ((0 : Nat) : Int) = 0 from rfl] at this
      simp only [cond_true]
      rw [this, List.drop_zero]
      rfl
    obtain ⟨q1, q2⟩ := lv_len (cntM l) (2 ^ k) now [] out (by omega)
    simp only [List.length_nil, Nat.zero_add] at q1
    rw [iter_in hrun, r0_run hc k _ _ fuel q1 (by omega) (by omega) (by omega), q1]
    have := siQ_lv (cntM l) (2 ^ k) (2 ^ k - 1) now [] out (by omega)
    rw [List.append_nil] at this
    rw [← this, show 2 ^ k + (2 ^ k - 1) = now.length - 1 by omega]
theorem pow_ex {n : Nat} (h : n ≤ 64) (hp : powB (n : Int) = true) : ∃ k, k ≤ 6 ∧ n = 2 ^ k := by
  have : ∀ n : Nat, n ≤ 64 → powB (n : Int) = true → n = 2 ^ 0 ∨ n = 2 ^ 1 ∨ n = 2 ^ 2 ∨ n = 2 ^ 3 ∨ n = 2 ^ 4 ∨ n = 2 ^ 5 ∨ n = 2 ^ 6 := by decide +kernel
  rcases this n h hp with h | h | h | h | h | h | h
  · exact ⟨0, by omega, h⟩
  · exact ⟨1, by omega, h⟩
  · exact ⟨2, by omega, h⟩
  · exact ⟨3, by omega, h⟩
  · exact ⟨4, by omega, h⟩
  · exact ⟨5, by omega, h⟩
  · exact ⟨6, by omega, h⟩
/-- slots and sheets that are fine -/
def rsB (s : List Int) (l : List (TCT cSc)) : Bool := decide (1 ≤ s.length ∧ s.length ≤ 64) && (powB (s.length : Int) && (chkV l == 0))
theorem l_r1 : LoopOk Try.prog 71 lb_rs1 (loopSum L_r1 E_r1 (finX [.exit 2] st_r1 fu_r1)) := loopOk_x0 XWi_ok 6 _ L_r1 E_r1 (fun _ => Nat.le_refl _) [.exit 2] _ fu_r1 e_r1
theorem loops_r0 : loopsOf lb_rs0 = [lb_rs1] := by kernel_rfl
theorem key_r1 : keyOf lb_rs1 = 6 := by kernel_rfl
theorem l_r0 : LoopOk Try.prog 71 lb_rs0 (loopSum L_r0 E_r0 (finX [.exit 0] st_r0 fu_r0)) := loopOk_xZ XWi_ok 6 _ [6] Lt_r0 (fun d hd f hf => by
  rw [loops_r0, List.mem_singleton] at hd
  subst hd
  rw [key_r1] at hf
  cases hf
  exact l_r1) L_r0 E_r0 (fun _ => Nat.le_refl _) [.exit 0] _ fu_r0 e_r0
noncomputable def X_rs : Ctx := ctxL Try.prog plWi [(71, Try.f71)] [((71, 3), loopSum L_r0 E_r0 (finX [.exit 0] st_r0 fu_r0))]
theorem X_rs_ok : CtxOk X_rs := ctxL_ok mixed puWi (fns_cons is_rsides fns_nil) (loops_cons (loops_of (ds := [lb_rs0, lb_rs1]) (by kernel_rfl) ⟨one_key (k := 3) (by kernel_rfl) rfl l_r0, no_key (k := 6) (by kernel_rfl) rfl, trivial⟩) loops_nil)
abbrev s_rsides : PureT := spec [.sl cI, .sl cSc] [.sl cPq] (fun x => rsB x.1 x.2.1) (fun x => (sdO x.1 x.2.1, ()))
def U_rs (y : Option (Left' E_r0)) : Tree (TCTs [.sl cPq]) := bif isE (.exit 0) y then .leaf ((valE (.exit 0) y).1.1, ()) else .fail
theorem U_rs_ok (s : List Int) (l : List (TCT cSc)) (h : rsB s l = true) : (U_rs (iter st_r0 (s.length + 1) (hd_r0 l [] s))).sat (fun y => y = (sdO s l, ())) := by
  unfold rsB at h
  rw [Bool.and_eq_true, Bool.and_eq_true, decide_eq_true_iff] at h
  obtain ⟨k, hk, e⟩ := pow_ex h.1.2 h.2.1
  have : k < 2 ^ k := Nat.lt_two_pow_self
  rw [r0_run h.2.2 k s [] (s.length + 1) e h.1.2 (by simp; omega) (by omega)]
  exact rfl
theorem q_rsides : PureOk Try.prog 71 s_rsides := q_by X_rs_ok 6 (fun x => U_rs (iter st_r0 (x.1.length + 1) (hd_r0 x.2.1 [] x.1))) (fun x => by kernel_rfl) fun x h _ => U_rs_ok x.1 x.2.1 h
noncomputable def plRs : List (Nat × PureT) := (71, s_rsides) :: plWi
theorem puRs : PuOk Try.prog plRs := puOk_cons is_rsides.plain q_rsides puWi
theorem al_rs {s : List Int} {l : List (TCT cSc)} (h1 : (drV s != 0) = false) (h2 : (chkV l != 0) = false) : rsB s l = true ∧ 2 ≤ s.length := by
  have hl := dr_len h1
  unfold rsB
  rw [decide_eq_true hl, Bool.true_and]
  have hc : (chkV l == 0) = true := by unfold bne at h2; simpa using h2
  rw [hc, Bool.and_true]
  unfold drV at h1
  rw [decide_eq_false (show ¬ ((s.length : Int) > 64) by omega)] at h1
  cases h3 : powB (s.length : Int) with
  | false => rw [h3] at h1; cases h1
  | true =>
    rw [h3] at h1
    refine ⟨rfl, ?_⟩
    cases h4 : decide ((s.length : Int) < 2) with
    | true => rw [h4] at h1; cases h1
    | false => have := of_decide_eq_false h4; omega
def Q_rSides (s : List Int) (l : List (TCT cSc)) : Tree (TCTs [.sl cPq, cI]) := bif rsB s l then .leaf (sdO s l, 0, ()) else .fail
def T_rSides (s : List Int) (l : List (TCT cSc)) : Tree (TCTs [.sl cPq, cI]) := bif drV s != 0 then (bif drV s != 0 then .leaf ([], drV s, ()) else Q_rSides s l) else (bif chkV l != 0 then .leaf ([], chkV l, ()) else Q_rSides s l)
theorem T_rSides_ok (s : List Int) (l : List (TCT cSc)) : (T_rSides s l).sat (fun y => y = ((sidV s l).1, (sidV s l).2, ())) := by
  unfold T_rSides sidV alV
  cases h1 : (drV s != 0) with
  | true => simp only [cond_true]; rw [h1]; exact rfl
  | false =>
    simp only [cond_false]
    cases h2 : (chkV l != 0) with
    | true => exact rfl
    | false =>
      unfold Q_rSides
      rw [(al_rs h1 h2).1]
      exact rfl
theorem q_rSides : PureOk Try.prog 34 s_Sides := q_by (ctx_ok mixed puRs (fns_cons is_rSides (fns_cons is_rboth fns_nil))) 6 (fun x => T_rSides x.1 x.2.1) (fun x => by kernel_rfl) fun x _ _ => T_rSides_ok x.1 x.2.1
end Ev
end V
end Go.Proofs.Ytgchccljmjmibaa
/-! Chapter 11: Champion, in the reference; pairs and numbers compared. -/
namespace Go.Proofs.Ytgchccljmjmibaa
open Go.RowKit
namespace V
namespace Ev
/-- the last match: its sides, and who goes on -/
theorem siQ_last (m : cMp) : ∀ (d : Nat) (q : List Int) (out : List (TCT cPq)), q.length = d + 2 → getA (siQ m (d + 1) q out).1 0 0 = winV (m ((out.length + d : Nat) : Int)) (getA (siQ m (d + 1) q out).2 (out.length + d) (dflt cPq)).1 (getA (siQ m (d + 1) q out).2 (out.length + d) (dflt cPq)).2.1
  | 0, [a, b], out, _ => by
    show winV (m (out.length : Int)) a b = winV (m ((out.length + 0 : Nat) : Int)) (getA (out ++ [(a, b, ())]) (out.length + 0) (dflt cPq)).1 (getA (out ++ [(a, b, ())]) (out.length + 0) (dflt cPq)).2.1
    rw [getA_lt (by simp)]
    simp
  | d + 1, a :: b :: r, out, h => by
    have := siQ_last m d (r ++ [winV (m (out.length : Int)) a b]) (out ++ [(a, b, ())]) (by simp at h ⊢; omega)
    rw [show (out ++ [(a, b, ())]).length + d = out.length + (d + 1) by simp; omega] at this
    exact this
  | 0, [], _, h => by simp at h
  | 0, [_], _, h => by simp at h
  | 0, _ :: _ :: _ :: _, _, h => by simp at h
  | d + 1, [], _, h => by simp at h
  | d + 1, [_], _, h => by simp at h
theorem sdW_last {s : List Int} (l : List (TCT cSc)) (h : 2 ≤ s.length) : (sdO s l).length = s.length - 1 ∧ sdW s l = winV (cntM l ((s.length - 2 : Nat) : Int)) (getA (sdO s l) (s.length - 2) (dflt cPq)).1 (getA (sdO s l) (s.length - 2) (dflt cPq)).2.1 := by
  have e : s.length - 1 = (s.length - 2) + 1 := by omega
  have q := siQ_len (cntM l) (s.length - 1) s [] (by omega)
  refine ⟨by rw [show sdO s l = (siQ (cntM l) (s.length - 1) s []).2 from rfl, q.2]; simp, ?_⟩
  have := siQ_last (cntM l) (s.length - 2) s [] (by omega)
  rw [← e] at this
  simp only [List.length_nil, Nat.zero_add] at this
  exact this
def Q3_rCh (w : Int) : Tree (TCTs [cI, cI]) := bif w == -2 then .leaf (0, 5, ()) else .leaf (w, 0, ())
def Q2_rCh (l : List (TCT cSc)) (o : List (TCT cPq)) (k : Int) : Tree (TCTs [cI, cI]) := inN o.length k (bif chkV l == 0 then Q3_rCh (winV (cntM l k) (getA o (Int.toNat k) (dflt cPq)).1 (getA o (Int.toNat k) (dflt cPq)).2.1) else .fail)
def Q_rCh (s : List Int) (l : List (TCT cSc)) : Tree (TCTs [cI, cI]) := bif rsB s l then Q2_rCh l (sdO s l) (W64 (((sdO s l).length : Int) - 1)) else .fail
def T_rCh (s : List Int) (l : List (TCT cSc)) : Tree (TCTs [cI, cI]) := bif drV s != 0 then (bif drV s != 0 then .leaf (0, drV s, ()) else Q_rCh s l) else (bif chkV l != 0 then .leaf (0, chkV l, ()) else Q_rCh s l)
theorem T_rCh_ok (s : List Int) (l : List (TCT cSc)) : (T_rCh s l).sat (fun y => y = ((chaV s l).1, (chaV s l).2, ())) := by
  unfold T_rCh chaV alV
  cases h1 : (drV s != 0) with
  | true => simp only [cond_true]; rw [h1]; exact rfl
  | false =>
    simp only [cond_false]
    cases h2 : (chkV l != 0) with
    | true => exact rfl
    | false =>
      obtain ⟨h3, h4⟩ := al_rs h1 h2
      obtain ⟨h5, h6⟩ := sdW_last l h4
      have hl := dr_len h1
      unfold Q_rCh Q2_rCh
      rw [h3, h5, W64_id (n := (((s.length - 1 : Nat) : Int)) - 1) (by omega) (by omega), show (((s.length - 1 : Nat) : Int)) - 1 = ((s.length - 2 : Nat) : Int) by omega, inN_ok (by omega), show Int.toNat ((s.length - 2 : Nat) : Int) = s.length - 2 by omega, ← h6]
      have hc : (chkV l == 0) = true := by unfold bne at h2; simpa using h2
      rw [hc]
      unfold Q3_rCh
      simp only [cond_true, cond_false]
      cases sdW s l == -2 <;> exact rfl
theorem q_rChamp : PureOk Try.prog 36 s_Champ := q_by (ctx_ok mixed puRs (fns_cons is_rChamp (fns_cons is_rboth fns_nil))) 6 (fun x => T_rCh x.1 x.2.1) (fun x => by kernel_rfl) fun x _ _ => T_rCh_ok x.1 x.2.1
/-! lists are compared: pairs -/
theorem is_pairs : FnIs Try.prog (37, Try.f37) := ⟨Try.func37, by kernel_rfl, by kernel_rfl⟩
noncomputable def lb_pairs : Code := (loopsOf (bodyOf Try.f37)).getD 0 .skip
def L_pairs : Lay := { keys := [0, 1, 5], ks := [.d (.sl (cPq)), .d (.sl (cPq)), .d cI], bs := [], n := 26, nx := 1000, marks := [] }
def R_pairs : Lay := { keys := [], ks := [], bs := [], n := 26, nx := 1000, marks := [] }
def Rt_pairs : Lay := { keys := [4], ks := [.d .b], bs := [], n := 26, nx := 1000, marks := [] }
def E_pairs : XE → Lay := fun e => match e with | .ret => Rt_pairs | _ => R_pairs
abbrev c_pairs := L_pairs.T ⊕ Left' E_pairs
def hd_pairs (a b : List (TCT (cPq))) (i : Int) : L_pairs.T := ((a, b, i, ()), ())
def rt_pairs : Left' E_pairs := ⟨.ret, ((false, ()), ())⟩
def ex_pairs : Left' E_pairs := ⟨.exit 0, ((), ())⟩
def eq_pairs (x y : TCT (cPq)) : Bool := x.1 == y.1 && (x.2.1 == y.2.1 && true)
def sm_pairs (a b : List (TCT (cPq))) (i : Int) : Tree c_pairs := bif decide (i < (a.length : Int)) then inN a.length i (inN b.length i (bif !eq_pairs (getA a (Int.toNat i) (dflt (cPq))) (getA b (Int.toNat i) (dflt (cPq))) then .leaf (.inr rt_pairs) else .leaf (.inl (hd_pairs a b (W64 (i + 1)))))) else .leaf (.inr ex_pairs)
def st_pairs (g : L_pairs.T) : Tree c_pairs := sm_pairs g.1.1 g.1.2.1 g.1.2.2.1
def fu_pairs (g : L_pairs.T) : Nat := (g.1.1 : List (TCT (cPq))).length + 1
noncomputable def X_pairs0 : Ctx := ctx Try.prog [] []
theorem X_pairs0_ok : CtxOk X_pairs0 := ctx_ok mixed puOk_nil fns_nil
theorem e_pairs (g : L_pairs.T) : evC Try.prog (evFn X_pairs0 6) X_pairs0.pures 37 X_pairs0.u (fun _ => none) lb_pairs (L_pairs.of g) (stepOut L_pairs E_pairs) = st_pairs g := by kernel_rfl
theorem eq_pairs_iff (x y : TCT (cPq)) : eq_pairs x y = true ↔ x = y := by
  obtain ⟨a, b, ⟨⟩⟩ := x
  obtain ⟨c, d, ⟨⟩⟩ := y
  simp [eq_pairs]
theorem pairs_run (a b : List (TCT (cPq))) (hw : (a.length : Int) ≤ maxK .i64) (hl : a.length = b.length) : iter st_pairs (a.length + 1) (hd_pairs a b 0) = some (bif decide (a = b) then ex_pairs else rt_pairs) := by
  have hw' : (a.length : Int) ≤ 9223372036854775807 := hw
  have := iter_same (st := st_pairs) hl eq_pairs (fun i => hd_pairs a b i) rt_pairs ex_pairs (fun i hi hj => by
    show (sm_pairs a b i).run = _
    unfold sm_pairs
    rw [decide_eq_true (show (i : Int) < (a.length : Int) by omega), inN_ok (by omega), inN_ok (by omega), show Int.toNat (i : Int) = i by omega, getA_lt hi, getA_lt hj, W64_id (n := (i : Int) + 1) (by omega) (by omega)]
    cases eq_pairs a[i] b[i] <;> rfl) (by
    show (sm_pairs a b a.length).run = _
    unfold sm_pairs
    rw [decide_eq_false (show ¬ (a.length : Int) < (a.length : Int) by omega)]
    rfl) a.length 0 (a.length + 1) (by omega) (by omega)
  rw [List.drop_zero, List.drop_zero] at this
  rw [show hd_pairs a b 0 = hd_pairs a b ((0 : Nat) : Int) from rfl, this]
  congr 1
  have h2 := eqL_iff eq_pairs_iff hl
  cases h : eqL eq_pairs a b with
  | true => rw [decide_eq_true (h2.1 h)]
  | false => rw [decide_eq_false (fun h3 => by rw [h2.2 h3] at h; cases h)]
abbrev s_pairs : PureT := spec [.sl (cPq), .sl (cPq)] [.b] (fun _ => true) (fun x => (decide (x.1 = x.2.1), ()))
noncomputable def X_pairs : Ctx := ctxL Try.prog [] [(37, Try.f37)] [((37, 4), loopSum L_pairs E_pairs (finX [.ret, .exit 0] st_pairs fu_pairs))]
theorem X_pairs_ok : CtxOk X_pairs := ctxL_ok mixed puOk_nil (fns_cons is_pairs fns_nil) (loops_one (lb := lb_pairs) (k := 4) (by kernel_rfl) (by kernel_rfl) (loopOk_x0 X_pairs0_ok 6 _ L_pairs E_pairs (fun e => by cases e <;> exact Nat.le_refl _) [.ret, .exit 0] _ fu_pairs e_pairs))
def U_pairs (y : Option (Left' E_pairs)) : Tree (TCTs [.b]) := bif isE .ret y then .leaf ((valE .ret y).1.1, ()) else bif isE (.exit 0) y then .leaf (true, ()) else .fail
def T_pairs (a b : List (TCT (cPq))) : Tree (TCTs [.b]) := bif (a.length : Int) != (b.length : Int) then .leaf (false, ()) else U_pairs (iter st_pairs (a.length + 1) (hd_pairs a b 0))
theorem T_pairs_ok (a b : List (TCT (cPq))) (hw : (a.length : Int) ≤ maxK .i64) : (T_pairs a b).sat (fun y => y = (decide (a = b), ())) := by
  unfold T_pairs
  refine sat_cond (fun h => ?_) (fun h => ?_)
  · have h1 : (a.length : Int) ≠ (b.length : Int) := by simpa using h
    rw [decide_eq_false (fun e : a = b => h1 (by rw [e]))]
    exact rfl
  · have h1 : a.length = b.length := by
      have : (a.length : Int) = (b.length : Int) := by simpa using h
      omega
    rw [pairs_run a b hw h1]
    by_cases hab : a = b
    · rw [decide_eq_true hab]; exact rfl
    · rw [decide_eq_false hab]; exact rfl
theorem q_pairs : PureOk Try.prog 37 s_pairs := q_by X_pairs_ok 6 (fun x => T_pairs x.1 x.2.1) (fun x => by kernel_rfl) fun x _ hw => T_pairs_ok x.1 x.2.1 hw.1.1
/-! lists are compared: ints -/
theorem is_ints : FnIs Try.prog (25, Try.f25) := ⟨Try.func25, by kernel_rfl, by kernel_rfl⟩
noncomputable def lb_ints : Code := (loopsOf (bodyOf Try.f25)).getD 0 .skip
def L_ints : Lay := { keys := [0, 1, 5], ks := [.d (.sl (cI)), .d (.sl (cI)), .d cI], bs := [], n := 26, nx := 1000, marks := [] }
def R_ints : Lay := { keys := [], ks := [], bs := [], n := 26, nx := 1000, marks := [] }
def Rt_ints : Lay := { keys := [4], ks := [.d .b], bs := [], n := 26, nx := 1000, marks := [] }
def E_ints : XE → Lay := fun e => match e with | .ret => Rt_ints | _ => R_ints
abbrev c_ints := L_ints.T ⊕ Left' E_ints
def hd_ints (a b : List (TCT (cI))) (i : Int) : L_ints.T := ((a, b, i, ()), ())
def rt_ints : Left' E_ints := ⟨.ret, ((false, ()), ())⟩
def ex_ints : Left' E_ints := ⟨.exit 0, ((), ())⟩
def eq_ints (x y : TCT (cI)) : Bool := x == y
def sm_ints (a b : List (TCT (cI))) (i : Int) : Tree c_ints := bif decide (i < (a.length : Int)) then inN a.length i (inN b.length i (bif !eq_ints (getA a (Int.toNat i) (dflt (cI))) (getA b (Int.toNat i) (dflt (cI))) then .leaf (.inr rt_ints) else .leaf (.inl (hd_ints a b (W64 (i + 1)))))) else .leaf (.inr ex_ints)
def st_ints (g : L_ints.T) : Tree c_ints := sm_ints g.1.1 g.1.2.1 g.1.2.2.1
def fu_ints (g : L_ints.T) : Nat := (g.1.1 : List (TCT (cI))).length + 1
noncomputable def X_ints0 : Ctx := ctx Try.prog [] []
theorem X_ints0_ok : CtxOk X_ints0 := ctx_ok mixed puOk_nil fns_nil
theorem e_ints (g : L_ints.T) : evC Try.prog (evFn X_ints0 6) X_ints0.pures 25 X_ints0.u (fun _ => none) lb_ints (L_ints.of g) (stepOut L_ints E_ints) = st_ints g := by kernel_rfl
theorem eq_ints_iff (x y : TCT (cI)) : eq_ints x y = true ↔ x = y := by
  simp [eq_ints]
theorem ints_run (a b : List (TCT (cI))) (hw : (a.length : Int) ≤ maxK .i64) (hl : a.length = b.length) : iter st_ints (a.length + 1) (hd_ints a b 0) = some (bif decide (a = b) then ex_ints else rt_ints) := by
  have hw' : (a.length : Int) ≤ 9223372036854775807 := hw
  have := iter_same (st := st_ints) hl eq_ints (fun i => hd_ints a b i) rt_ints ex_ints (fun i hi hj => by
    show (sm_ints a b i).run = _
    unfold sm_ints
    rw [decide_eq_true (show (i : Int) < (a.length : Int) by omega), inN_ok (by omega), inN_ok (by omega), show Int.toNat (i : Int) = i by omega, getA_lt hi, getA_lt hj, W64_id (n := (i : Int) + 1) (by omega) (by omega)]
    cases eq_ints a[i] b[i] <;> rfl) (by
    show (sm_ints a b a.length).run = _
    unfold sm_ints
    rw [decide_eq_false (show ¬ (a.length : Int) < (a.length : Int) by omega)]
    rfl) a.length 0 (a.length + 1) (by omega) (by omega)
  rw [List.drop_zero, List.drop_zero] at this
  rw [show hd_ints a b 0 = hd_ints a b ((0 : Nat) : Int) from rfl, this]
  congr 1
  have h2 := eqL_iff eq_ints_iff hl
  cases h : eqL eq_ints a b with
  | true => rw [decide_eq_true (h2.1 h)]
  | false => rw [decide_eq_false (fun h3 => by rw [h2.2 h3] at h; cases h)]
abbrev s_ints : PureT := spec [.sl (cI), .sl (cI)] [.b] (fun _ => true) (fun x => (decide (x.1 = x.2.1), ()))
noncomputable def X_ints : Ctx := ctxL Try.prog [] [(25, Try.f25)] [((25, 4), loopSum L_ints E_ints (finX [.ret, .exit 0] st_ints fu_ints))]
theorem X_ints_ok : CtxOk X_ints := ctxL_ok mixed puOk_nil (fns_cons is_ints fns_nil) (loops_one (lb := lb_ints) (k := 4) (by kernel_rfl) (by kernel_rfl) (loopOk_x0 X_ints0_ok 6 _ L_ints E_ints (fun e => by cases e <;> exact Nat.le_refl _) [.ret, .exit 0] _ fu_ints e_ints))
def U_ints (y : Option (Left' E_ints)) : Tree (TCTs [.b]) := bif isE .ret y then .leaf ((valE .ret y).1.1, ()) else bif isE (.exit 0) y then .leaf (true, ()) else .fail
def T_ints (a b : List (TCT (cI))) : Tree (TCTs [.b]) := bif (a.length : Int) != (b.length : Int) then .leaf (false, ()) else U_ints (iter st_ints (a.length + 1) (hd_ints a b 0))
theorem T_ints_ok (a b : List (TCT (cI))) (hw : (a.length : Int) ≤ maxK .i64) : (T_ints a b).sat (fun y => y = (decide (a = b), ())) := by
  unfold T_ints
  refine sat_cond (fun h => ?_) (fun h => ?_)
  · have h1 : (a.length : Int) ≠ (b.length : Int) := by simpa using h
    rw [decide_eq_false (fun e : a = b => h1 (by rw [e]))]
    exact rfl
  · have h1 : a.length = b.length := by
      have : (a.length : Int) = (b.length : Int) := by simpa using h
      omega
    rw [ints_run a b hw h1]
    by_cases hab : a = b
    · rw [decide_eq_true hab]; exact rfl
    · rw [decide_eq_false hab]; exact rfl
theorem q_ints : PureOk Try.prog 25 s_ints := q_by X_ints_ok 6 (fun x => T_ints x.1 x.2.1) (fun x => by kernel_rfl) fun x _ hw => T_ints_ok x.1 x.2.1 hw.1.1
end Ev
end V
end Go.Proofs.Ytgchccljmjmibaa
