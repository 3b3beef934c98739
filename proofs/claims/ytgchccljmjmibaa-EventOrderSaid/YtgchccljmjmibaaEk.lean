/- Chapter 11: the sides of all matches, in the reference. -/
import Derived.Test.YtgchccljmjmibaaEj
import Derived.Test.YtgchccljmjmibaaZy
namespace Go.Proofs.Ytgchccljmjmibaa
open Go.RowKit
namespace V
namespace Ev
/-! who goes on -/
abbrev s_win : PureT := spec [.sl cSc, cI, cPq] [cI] (fun x => chkV x.1 == 0) (fun x => (winV (cntM x.1 x.2.1) x.2.2.1.1 x.2.2.1.2.1, ()))
def T_win (l : List (TCT cSc)) (n a b : Int) : Tree (TCTs [cI]) := bif a == -1 then .leaf (b, ()) else bif b == -1 then .leaf (a, ()) else bif a == -2 then .leaf (-2, ()) else bif b == -2 then .leaf (-2, ()) else bif !(cntM l n).isSome then .leaf (-2, ()) else bif decide ((or0 (cntM l n)).2.2.1 = 0) then .leaf (a, ()) else bif decide ((or0 (cntM l n)).2.2.1 = 1) then .leaf (b, ()) else .fail
theorem T_win_ok (l : List (TCT cSc)) (n a b : Int) (hm : W01 (cntM l)) : (T_win l n a b).sat (fun y => y = (winV (cntM l n) a b, ())) := by
  unfold T_win winV bne
  cases a == -1 with
  | true => exact rfl
  | false =>
    cases b == -1 with
    | true => exact rfl
    | false =>
      simp only [cond_false]
      cases a == -2 with
      | true => simp only [cond_true, Bool.not_true, Bool.false_and, Bool.and_false, cond_false]; exact rfl
      | false =>
        cases b == -2 with
        | true => simp only [cond_true, cond_false, Bool.not_true, Bool.and_false]; exact rfl
        | false =>
          simp only [cond_false, Bool.not_false, Bool.and_true]
          cases ho : cntM l n with
          | none => exact rfl
          | some s =>
            simp only [Option.isSome_some, Bool.not_true, cond_false, cond_true]
            rcases hm _ _ ho with h | h
            · rw [show (or0 (some s)).2.2.1 = s.2.2.1 from rfl, h]
              exact rfl
            · rw [show (or0 (some s)).2.2.1 = s.2.2.1 from rfl, h]
              exact rfl
theorem q_win : PureOk Try.prog 72 s_win := q_by (ctxU_ok (u := 3) mixed puRk (fns_cons is_rwin fns_nil)) 6 (fun x => T_win x.1 x.2.1 x.2.2.1.1 x.2.2.1.2.1) (fun x => by kernel_rfl) fun x h hw => T_win_ok x.1 x.2.1 x.2.2.1.1 x.2.2.1.2.1 (W01_cnt hw.1 h)
noncomputable def plWi : List (Nat × PureT) := (72, s_win) :: plRk
theorem puWi : PuOk Try.prog plWi := puOk_cons is_rwin.plain q_win puRk
noncomputable def XWi : Ctx := ctx Try.prog plWi []
theorem XWi_ok : CtxOk XWi := ctx_ok mixed puWi fns_nil
/-! a level -/
def L_r1 : Lay := { keys := [1, 5, 6, 7, 8], ks := [.d (.sl cSc), .o 45 cPq, .d (.sl cI), .o 3 cI, .d cI], bs := [], n := 44, nx := 2000, marks := [] }
def R_r1 : Lay := { keys := [1, 5, 7], ks := [.d (.sl cSc), .o 45 cPq, .o 3 cI], bs := [], n := 44, nx := 2000, marks := [] }
def E_r1 : XE → Lay := fun _ => R_r1
abbrev cR1' := L_r1.T ⊕ Left' E_r1
def hd_r1 (l : List (TCT cSc)) (out : List (TCT cPq)) (now next : List Int) (i : Int) : L_r1.T := ((l, out, now, next, i, ()), ())
def ex_r1 (l : List (TCT cSc)) (out : List (TCT cPq)) (next : List Int) : Left' E_r1 := ⟨.exit 2, ((l, out, next, ()), ())⟩
def w_r1 (l : List (TCT cSc)) (out : List (TCT cPq)) (now next : List Int) (i a b w : Int) : Tree cR1' := bif appOk next [w] 8 then bif appOk out [(a, b, ())] 16 then .leaf (.inl (hd_r1 l (out ++ [(a, b, ())]) now (next ++ [w]) (W64 (i + 2)))) else .fail else .fail
def ab_r1 (l : List (TCT cSc)) (out : List (TCT cPq)) (now next : List Int) (i a b : Int) : Tree cR1' := bif chkV l == 0 then w_r1 l out now next i a b (winV (cntM l (out.length : Int)) a b) else .fail
def sm_r1 (l : List (TCT cSc)) (out : List (TCT cPq)) (now next : List Int) (i : Int) : Tree cR1' := bif decide (i < (now.length : Int)) then inN now.length i (inN now.length (W64 (i + 1)) (ab_r1 l out now next i (getA now (Int.toNat i) 0) (getA now (Int.toNat (W64 (i + 1))) 0))) else .leaf (.inr (ex_r1 l out next))
def st_r1 (g : L_r1.T) : Tree cR1' := sm_r1 g.1.1 g.1.2.1 g.1.2.2.1 g.1.2.2.2.1 g.1.2.2.2.2.1
def fu_r1 (g : L_r1.T) : Nat := (g.1.2.2.1 : List Int).length + 1
theorem e_r1 (g : L_r1.T) : evC Try.prog (evFn XWi 6) XWi.pures 71 XWi.u (fun _ => none) lb_rs1 (L_r1.of g) (stepOut L_r1 E_r1) = st_r1 g := by kernel_rfl
/-- a level: who goes on, and the sides -/
def lv (m : cMp) : List Int → List Int → List (TCT cPq) → List Int × List (TCT cPq)
  | a :: b :: r, next, out => lv m r (next ++ [winV (m (out.length : Int)) a b]) (out ++ [(a, b, ())])
  | _, next, out => (next, out)
theorem lv_len (m : cMp) : ∀ (j : Nat) (now next : List Int) (out : List (TCT cPq)), now.length = 2 * j → (lv m now next out).1.length = next.length + j ∧ (lv m now next out).2.length = out.length + j
  | 0, [], next, out, _ => ⟨rfl, rfl⟩
  | j + 1, a :: b :: r, next, out, h => by
    have := lv_len m j r (next ++ [winV (m (out.length : Int)) a b]) (out ++ [(a, b, ())]) (by simp at h; omega)
    rw [show lv m (a :: b :: r) next out = lv m r (next ++ [winV (m (out.length : Int)) a b]) (out ++ [(a, b, ())]) from rfl, this.1, this.2]
    simp; omega
  | 0, _ :: _, _, _, h => by simp at h
  | j + 1, [], _, _, h => by simp at h
  | j + 1, [_], _, _, h => by simp at h; omega
theorem siQ_lv (m : cMp) : ∀ (j d : Nat) (now next : List Int) (out : List (TCT cPq)), now.length = 2 * j → siQ m (j + d) (now ++ next) out = siQ m d (lv m now next out).1 (lv m now next out).2
  | 0, d, [], next, out, _ => by rw [Nat.zero_add]; rfl
  | j + 1, d, a :: b :: r, next, out, h => by
    have := siQ_lv m j d r (next ++ [winV (m (out.length : Int)) a b]) (out ++ [(a, b, ())]) (by simp at h; omega)
    rw [show lv m (a :: b :: r) next out = lv m r (next ++ [winV (m (out.length : Int)) a b]) (out ++ [(a, b, ())]) from rfl, ← this, show j + 1 + d = (j + d) + 1 by omega, ← List.append_assoc]
    rfl
  | 0, _, _ :: _, _, _, h => by simp at h
  | j + 1, _, [], _, _, h => by simp at h
  | j + 1, _, [_], _, _, h => by simp at h; omega
theorem r1_run {l : List (TCT cSc)} (hc : (chkV l == 0) = true) (now : List Int) : ∀ (j : Nat) (i : Nat) (next : List Int) (out : List (TCT cPq)) (fuel : Nat), i + 2 * j = now.length → now.length ≤ 64 → next.length + j ≤ 100 → out.length + j ≤ 100 → j < fuel →
    iter st_r1 fuel (hd_r1 l out now next i) = some (ex_r1 l (lv (cntM l) (now.drop i) next out).2 (lv (cntM l) (now.drop i) next out).1)
  | 0, i, next, out, fuel + 1, h, _, _, _, _ => by
    rw [List.drop_eq_nil_of_le (by omega)]
    refine iter_out ?_
    show (sm_r1 l out now next i).run = _
    unfold sm_r1
    rw [decide_eq_false (show ¬ ((i : Int) < (now.length : Int)) by omega)]
    rfl
  | j + 1, i, next, out, fuel + 1, h, h6, hn, ho, hf => by
    have h0 : i < now.length := by omega
    have h1 : i + 1 < now.length := by omega
    have hd : now.drop i = now[i] :: now[i + 1] :: now.drop (i + 2) := by rw [List.drop_eq_getElem_cons h0, List.drop_eq_getElem_cons h1]
    have hrun : (st_r1 (hd_r1 l out now next i)).run = some (.inl (hd_r1 l (out ++ [(now[i], now[i + 1], ())]) now (next ++ [winV (cntM l (out.length : Int)) now[i] now[i + 1]]) ((i + 2 : Nat) : Int))) := by
      show (sm_r1 l out now next i).run = _
      unfold sm_r1
      rw [decide_eq_true (show ((i : Int) < (now.length : Int)) by omega), W64_id (n := (i : Int) + 1) (by omega) (by omega), inN_ok (by omega), inN_ok (by omega)]
      simp only [cond_true]
      rw [show Int.toNat (i : Int) = i by omega, show Int.toNat ((i : Int) + 1) = i + 1 by omega, getA_lt h0, getA_lt h1]
      unfold ab_r1
      rw [hc]
      unfold w_r1
      rw [app_ok (h := next) (by simp; omega) (by omega), app_ok (h := out) (by simp; omega) (by omega), W64_id (n := (i : Int) + 2) (by omega) (by omega)]
      rfl
    rw [iter_in hrun, r1_run hc now j (i + 2) _ _ fuel (by omega) h6 (by simp; omega) (by simp; omega) (by omega), hd]
    rfl
/-! the levels -/
def L_r0 : Lay := { keys := [1, 5, 6], ks := [.d (.sl cSc), .o 45 cPq, .d (.sl cI)], bs := [], n := 44, nx := 1000, marks := [] }
def R_r0 : Lay := { keys := [5], ks := [.o 45 cPq], bs := [], n := 44, nx := 1000, marks := [] }
def E_r0 : XE → Lay := fun _ => R_r0
abbrev cR0' := L_r0.T ⊕ Left' E_r0
noncomputable def Lt_r0 : LoopT := fun k => bif Nat.beq k 6 then some (loopSum L_r1 E_r1 (finX [.exit 2] st_r1 fu_r1)) else none
def hd_r0 (l : List (TCT cSc)) (out : List (TCT cPq)) (now : List Int) : L_r0.T := ((l, out, now, ()), ())
def ex_r0 (out : List (TCT cPq)) : Left' E_r0 := ⟨.exit 0, ((out, ()), ())⟩
def y_r0 (y : Option (Left' E_r1)) : Tree cR0' := bif isE (.exit 2) y then .leaf (.inl (hd_r0 (valE (.exit 2) y).1.1 (valE (.exit 2) y).1.2.1 (valE (.exit 2) y).1.2.2.1)) else .fail
def sm_r0 (l : List (TCT cSc)) (out : List (TCT cPq)) (now : List Int) : Tree cR0' := bif decide ((now.length : Int) > 1) then y_r0 (iter st_r1 (now.length + 1) (hd_r1 l out now [] 0)) else .leaf (.inr (ex_r0 out))
def st_r0 (g : L_r0.T) : Tree cR0' := sm_r0 g.1.1 g.1.2.1 g.1.2.2.1
def fu_r0 (g : L_r0.T) : Nat := (g.1.2.2.1 : List Int).length + 1
theorem e_r0 (g : L_r0.T) : evC Try.prog (evFn XWi 6) XWi.pures 71 XWi.u Lt_r0 lb_rs0 (L_r0.of g) (stepOutZ [6] L_r0 E_r0) = st_r0 g := by kernel_rfl
end Ev
end V
end Go.Proofs.Ytgchccljmjmibaa
