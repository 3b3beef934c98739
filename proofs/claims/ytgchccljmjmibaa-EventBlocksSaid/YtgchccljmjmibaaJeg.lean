/- Chapter 11: the table, in the reference: its loops. -/
import Derived.Test.YtgchccljmjmibaaJb
import Derived.Test.YtgchccljmjmibaaJc
import Derived.Test.YtgchccljmjmibaaEh
import Derived.Test.YtgchccljmjmibaaGs
namespace Go.Proofs.Ytgchccljmjmibaa
open Go.RowKit
namespace V
namespace Ev
theorem is_rtable : FnIs Try.prog (86, Try.f86) := ⟨Try.func86, by kernel_rfl, by kernel_rfl⟩
abbrev nRt : Nat := 86
noncomputable def plRt : List (Nat × PureT) := (67, s_rk) :: (nNu, s_num) :: []
theorem puRt : PuOk Try.prog plRt := puOk_cons is_rcounts.plain q_rcounts (puOk_cons is_rnum.plain q_rnum puOk_nil)
noncomputable def XRt0 : Ctx := ctx Try.prog plRt []
theorem XRt0_ok : CtxOk XRt0 := ctx_ok mixed puRt fns_nil
noncomputable def lb_rt (k : Nat) : Code := (loopsOf (bodyOf Try.f86)).getD k .skip
def L_u1 : Lay := { keys := [0, 1, 5, 6, 7], ks := [.d cI, .d (.sl cSc), .o 76 cRow, .d cI, .d cI], bs := [], n := 93, nx := 2000, marks := [] }
def R_u1 : Lay := { keys := [0, 1, 5, 6], ks := [.d cI, .d (.sl cSc), .o 76 cRow, .d cI], bs := [], n := 93, nx := 2000, marks := [] }
def E_u1 : XE → Lay := fun _ => R_u1
def L_u0 : Lay := { keys := [0, 1, 5, 6], ks := [.d cI, .d (.sl cSc), .o 76 cRow, .d cI], bs := [], n := 93, nx := 1000, marks := [] }
def R_u0 : Lay := { keys := [5], ks := [.o 76 cRow], bs := [], n := 93, nx := 1000, marks := [] }
def E_u0 : XE → Lay := fun _ => R_u0
abbrev LSh := List (TCT cSc)
def hd_u1 (n : Int) (l : LSh) (o : Rows) (a b : Int) : L_u1.T := ((n, l, o, a, b, ()), ())
def ex_u1 (n : Int) (l : LSh) (o : Rows) (a : Int) : Left' E_u1 := ⟨.exit 2, ((n, l, o, a, ()), ())⟩
def hd_u0 (n : Int) (l : LSh) (o : Rows) (a : Int) : L_u0.T := ((n, l, o, a, ()), ())
def ex_u0 (o : Rows) : Left' E_u0 := ⟨.exit 0, ((o, ()), ())⟩
abbrev cU1 := L_u1.T ⊕ Left' E_u1
abbrev cU0 := L_u0.T ⊕ Left' E_u0
def ke_u1 (n : Int) (l : LSh) (a b : Int) (o : Rows) : Tree cU1 := .leaf (.inl (hd_u1 n l o a (W64 (b + 1))))
def wi_u1 (n : Int) (l : LSh) (a b : Int) (o : Rows) (p : Int) : Tree cU1 := inO o.length a (inO o.length a (inO (puW o a (W64 ((gR o a).2.2.1 + 1))).length a (inO (puW o a (W64 ((gR o a).2.2.1 + 1))).length a (ke_u1 n l a b (puN (puW o a (W64 ((gR o a).2.2.1 + 1))) a (W64 ((gR (puW o a (W64 ((gR o a).2.2.1 + 1))) a).2.2.2.1 + p)))))))
def lo_u1 (n : Int) (l : LSh) (a b : Int) (o : Rows) (p : Int) : Tree cU1 := inO o.length a (inO o.length a (ke_u1 n l a b (puN o a (W64 ((gR o a).2.2.2.1 - p)))))
def gm_u1 (n : Int) (l : LSh) (o : Rows) (a b : Int) (s : Option (TCT cSc)) : Tree cU1 := bif !s.isSome then ke_u1 n l a b o else inO o.length a (inO o.length a (bif ((or0 s).2.2.1 == 0) == decide (a < b) then wi_u1 n l a b (puG o a (W64 ((gR o a).2.1 + 1))) (or0 s).2.2.2.1 else lo_u1 n l a b (puG o a (W64 ((gR o a).2.1 + 1))) (or0 s).2.2.2.1))
def sm_u1 (n : Int) (l : LSh) (o : Rows) (a b : Int) : Tree cU1 := bif decide (b < n) then (bif a == b then ke_u1 n l a b o else bif okN n (min a b) (max a b) then gm_u1 n l o a b (cntM l (numW n (min a b) (max a b))) else .fail) else .leaf (.inr (ex_u1 n l o a))
def st_u1 (g : L_u1.T) : Tree cU1 := sm_u1 g.1.1 g.1.2.1 g.1.2.2.1 g.1.2.2.2.1 g.1.2.2.2.2.1
def fu_u1 (g : L_u1.T) : Nat := (g.1.1 : Int).toNat + 1
theorem e_u1 (g : L_u1.T) : evC Try.prog (evFn XRt0 6) XRt0.pures nRt XRt0.u (fun _ => none) (lb_rt 1) (L_u1.of g) (stepOut L_u1 E_u1) = st_u1 g := by kernel_rfl
noncomputable def s_u1 : St → Tree (XE × St) := loopSum L_u1 E_u1 (finX [.exit 2] st_u1 fu_u1)
theorem l_u1 : LoopOk Try.prog nRt (lb_rt 1) s_u1 := loopOk_x0 XRt0_ok 6 _ L_u1 E_u1 (fun _ => Nat.le_refl _) [.exit 2] st_u1 fu_u1 e_u1
noncomputable def Lt_u0 : LoopT := assoc2 [((nRt, 7), s_u1)] nRt
def af_u0 (y : Option (Left' E_u1)) : Tree cU0 := bif isE (.exit 2) y then .leaf (.inl (hd_u0 (valE (E := E_u1) (.exit 2) y).1.1 (valE (E := E_u1) (.exit 2) y).1.2.1 (valE (E := E_u1) (.exit 2) y).1.2.2.1 (W64 ((valE (E := E_u1) (.exit 2) y).1.2.2.2.1 + 1)))) else .fail
def sm_u0 (n : Int) (l : LSh) (o : Rows) (a : Int) : Tree cU0 := bif decide (a < n) then inO o.length a (af_u0 (iter st_u1 (n.toNat + 1) (hd_u1 n l (plA o a) a 0))) else .leaf (.inr (ex_u0 o))
def st_u0 (g : L_u0.T) : Tree cU0 := sm_u0 g.1.1 g.1.2.1 g.1.2.2.1 g.1.2.2.2.1
def fu_u0 (g : L_u0.T) : Nat := (g.1.1 : Int).toNat + 1
theorem e_u0 (g : L_u0.T) : evC Try.prog (evFn XRt0 6) XRt0.pures nRt XRt0.u Lt_u0 (lb_rt 0) (L_u0.of g) (stepOut L_u0 E_u0) = st_u0 g := by kernel_rfl
theorem loops_u0 : loopsOf (lb_rt 0) = [lb_rt 1] := by kernel_rfl
theorem key_u1 : keyOf (lb_rt 1) = 7 := by kernel_rfl
noncomputable def s_u0 : St → Tree (XE × St) := loopSum L_u0 E_u0 (finX [.exit 0] st_u0 fu_u0)
theorem l_u0 : LoopOk Try.prog nRt (lb_rt 0) s_u0 := loopOk_x XRt0_ok 6 _ Lt_u0 (fun d hd f hf => by
  rw [loops_u0, List.mem_singleton] at hd
  subst hd
  rw [key_u1] at hf
  cases hf
  exact l_u1) L_u0 E_u0 (fun _ => Nat.le_refl _) [.exit 0] st_u0 fu_u0 e_u0
end Ev
end V
end Go.Proofs.Ytgchccljmjmibaa
/-! Chapter 11: the table, in the reference: a contract. -/
namespace Go.Proofs.Ytgchccljmjmibaa
open Go.RowKit
namespace V
namespace Ev
theorem gR_puG (o : Rows) (a : Nat) (v : Int) (h : a < o.length) : gR (puG o a v) (a : Int) = ((gR o a).1, v, (gR o a).2.2.1, (gR o a).2.2.2.1, ()) := by unfold puG; rw [gR_set' o a a _ h, if_pos rfl]
theorem gR_puW (o : Rows) (a : Nat) (v : Int) (h : a < o.length) : gR (puW o a v) (a : Int) = ((gR o a).1, (gR o a).2.1, v, (gR o a).2.2.2.1, ()) := by unfold puW; rw [gR_set' o a a _ h, if_pos rfl]
theorem setA_self (o : Rows) (a : Nat) (h : a < o.length) : setA o a (gR o a) = o := by
  unfold gR
  rw [setA_eq, show Int.toNat (a : Int) = a by omega, getA_lt h, List.set_getElem_self]
/-- a row is put in the place of one -/
def rwT (n : Int) (m : cMp) (a : Nat) (o : Rows) (b : Nat) : Rows := setA o a (rwR n m a (gR o a) b)
theorem rwT_len (n : Int) (m : cMp) (a : Nat) (o : Rows) (b : Nat) : (rwT n m a o b).length = o.length := setA_length _ _ _
theorem rwT_fold (n : Int) (m : cMp) (a : Nat) : ∀ (bs : List Nat) (o : Rows), a < o.length → bs.foldl (rwT n m a) o = setA o a (bs.foldl (rwR n m a) (gR o a))
  | [], o, h => (setA_self o a h).symm
  | b :: bs, o, h => by
    rw [List.foldl_cons, List.foldl_cons, rwT_fold n m a bs (rwT n m a o b) (by rw [rwT_len]; exact h)]
    unfold rwT
    rw [gR_set o a a _ h, if_pos rfl, setA_2]
theorem u1_step (n : Int) (l : LSh) (o : Rows) (a b : Nat) (hn : n ≤ 16) (h2 : 2 ≤ n) (ha : (a : Int) < n) (hb : (b : Int) < n) (hl : a < o.length) :
    (sm_u1 n l o a b).run = some (.inl (hd_u1 n l (rwT n (cntM l) a o b) a ((b + 1 : Nat) : Int))) := by
  have hw : W64 ((b : Int) + 1) = ((b + 1 : Nat) : Int) := by rw [W64_id (by omega) (by omega)]; omega
  unfold sm_u1 rwT rwR ke_u1
  rw [decide_eq_true hb, cond_true, hw]
  by_cases hab : a = b
  · subst hab
    rw [beq_self_eq_true, beq_self_eq_true, cond_true, cond_true, setA_self o a hl]
    rfl
  · rw [show ((a : Int) == (b : Int)) = false by rw [beq_eq_false_iff_ne]; omega, show (b == a) = false by rw [beq_eq_false_iff_ne]; omega, cond_false, cond_false]
    have hok : okN n (min (a : Int) (b : Int)) (max (a : Int) (b : Int)) = true := decide_eq_true (by omega)
    have hnm : numW n (min (a : Int) (b : Int)) (max (a : Int) (b : Int)) = numW n a b := by
      rcases Int.le_total (a : Int) (b : Int) with h | h
      · rw [Int.min_eq_left h, Int.max_eq_right h]
      · rw [Int.min_eq_right h, Int.max_eq_left h, numW_symm]
    rw [hok, hnm, cond_true]
    unfold gm_u1 rwS
    cases cntM l (numW n a b) with
    | none =>
      show (ke_u1 n l a b o).run = _
      unfold ke_u1
      rw [hw, setA_self o a hl]
      rfl
    | some s =>
      simp only [Option.isSome_some, Bool.not_true, cond_false]
      rw [inO_in hl, inO_in hl, show or0 (some s) = s from rfl]
      have hg := gR_puG o a (W64 ((gR o a).2.1 + 1)) hl
      have hgl : a < (puG o a (W64 ((gR o a).2.1 + 1))).length := by rw [puG_len]; exact hl
      cases (s.2.2.1 == 0) == decide ((a : Int) < (b : Int)) with
      | true =>
        simp only [cond_true]
        unfold wi_u1 ke_u1
        rw [inO_in hgl, inO_in hgl, hg]
        have hwl : a < (puW (puG o a (W64 ((gR o a).2.1 + 1))) a (W64 ((gR o a).2.2.1 + 1))).length := by rw [puW_len]; exact hgl
        rw [inO_in hwl, inO_in hwl, gR_puW _ a _ hgl, hg, hw]
        have e := addW_eq o a s.2.2.2.1 hl
        unfold addW at e
        rw [← e]
        rfl
      | false =>
        simp only [cond_false]
        unfold lo_u1 ke_u1
        rw [inO_in hgl, inO_in hgl, hg, hw]
        have e := addL_eq o a s.2.2.2.1 hl
        unfold addL at e
        rw [← e]
        rfl
theorem u1_run (n : Int) (l : LSh) (o : Rows) (a : Nat) (hn : n ≤ 16) (h2 : 2 ≤ n) (ha : (a : Int) < n) (hl : a < o.length) : iter st_u1 (n.toNat + 1) (hd_u1 n l o a 0) = some (ex_u1 n l (setA o a ((List.range n.toNat).foldl (rwR n (cntM l) a) (gR o a))) a) := by
  have h := iter_foldl (st := st_u1) (List.range n.toNat) (fun i o => hd_u1 n l o a i) (rwT n (cntM l) a) (fun o => ex_u1 n l o a) (fun _ r => r.length = o.length) (fun i r hi hr => ⟨?_, by rw [rwT_len]; exact hr⟩) (fun r hr => ?_) o rfl
  · rw [List.length_range, rwT_fold n (cntM l) a _ o hl] at h
    exact h
  · rw [List.length_range] at hi
    rw [List.getElem_range]
    exact u1_step n l r a i hn h2 ha (by omega) (by omega)
  · rw [List.length_range]
    show (sm_u1 n l r a (n.toNat : Int)).run = _
    unfold sm_u1
    rw [decide_eq_false (show ¬ ((n.toNat : Nat) : Int) < n by omega)]
    rfl
/-- a player's row in the reference -/
def rwU (n : Int) (m : cMp) (o : Rows) (a : Nat) : Rows := setA (plA o a) a ((List.range n.toNat).foldl (rwR n m a) (gR (plA o a) a))
theorem rwU_len (n : Int) (m : cMp) (o : Rows) (a : Nat) : (rwU n m o a).length = o.length := (setA_length _ _ _).trans (plA_len _ _)
theorem u0_run (n : Int) (l : LSh) (hn : n ≤ 16) (h2 : 2 ≤ n) : iter st_u0 (n.toNat + 1) (hd_u0 n l (List.replicate n.toNat zR) 0) = some (ex_u0 ((List.range n.toNat).foldl (rwU n (cntM l)) (List.replicate n.toNat zR))) := by
  have h := iter_foldl (st := st_u0) (List.range n.toNat) (fun i o => hd_u0 n l o i) (rwU n (cntM l)) ex_u0 (fun _ r => r.length = n.toNat) (fun i r hi hr => ⟨?_, by rw [rwU_len]; exact hr⟩) (fun r hr => ?_) (List.replicate n.toNat zR) (by simp)
  · rw [List.length_range] at h
    exact h
  · rw [List.length_range] at hi
    rw [List.getElem_range]
    show (sm_u0 n l r i).run = _
    unfold sm_u0
    rw [decide_eq_true (show (i : Int) < n by omega), cond_true, inO_in (by omega), u1_run n l (plA r i) i hn h2 (by omega) (by rw [plA_len]; omega)]
    show some (Sum.inl (hd_u0 n l _ (W64 ((i : Int) + 1)))) = _
    rw [W64_id (n := (i : Int) + 1) (by omega) (by omega)]
    rfl
  · rw [List.length_range]
    show (sm_u0 n l r (n.toNat : Int)).run = _
    unfold sm_u0
    rw [decide_eq_false (show ¬ ((n.toNat : Nat) : Int) < n by omega)]
    rfl
theorem rwU_get (n : Int) (m : cMp) : ∀ t, t ≤ n.toNat → ((List.range t).foldl (rwU n m) (List.replicate n.toNat zR)).length = n.toNat ∧ ∀ i : Nat, i < n.toNat → gR ((List.range t).foldl (rwU n m) (List.replicate n.toNat zR)) (i : Int) = if i < t then rwF n m n.toNat i else zR
  | 0, _ => by
    refine ⟨by simp, fun k hk => ?_⟩
    rw [if_neg (by omega)]
    unfold gR
    rw [List.range_zero, List.foldl_nil, show Int.toNat (k : Int) = k by omega, getA_lt (by simpa using hk)]
    simp
  | t + 1, ht => by
    obtain ⟨h1, h2⟩ := rwU_get n m t (by omega)
    rw [List.range_succ, List.foldl_append]
    show (rwU n m _ t).length = _ ∧ ∀ i : Nat, i < n.toNat → gR (rwU n m _ t) i = _
    generalize (List.range t).foldl (rwU n m) (List.replicate n.toNat zR) = o at h1 h2
    refine ⟨by rw [rwU_len]; exact h1, fun i hi => ?_⟩
    have hp : gR (plA o t) (t : Int) = rw0 t := by
      unfold plA
      rw [gR_set' o t t _ (by omega), if_pos rfl, h2 t (by omega), if_neg (by omega)]
      rfl
    unfold rwU
    rw [gR_set _ t i _ (by rw [plA_len]; omega), hp]
    by_cases e : i = t
    · subst e
      rw [if_pos rfl, if_pos (by omega)]
      rfl
    · rw [if_neg e]
      unfold plA
      rw [gR_set' o t i _ (by omega), if_neg e, h2 i hi]
      by_cases h3 : i < t
      · rw [if_pos h3, if_pos (by omega)]
      · rw [if_neg h3, if_neg (by omega)]
theorem rwU_all (n : Int) (m : cMp) : (List.range n.toNat).foldl (rwU n m) (List.replicate n.toNat zR) = tbV n m := by
  obtain ⟨h1, h2⟩ := rwU_get n m n.toNat (Nat.le_refl _)
  rw [tbV_rows]
  refine List.ext_getElem (by rw [h1]; simp) fun i g1 g2 => ?_
  rw [h1] at g1
  have := h2 i g1
  rw [if_pos g1] at this
  unfold gR at this
  rw [show Int.toNat (i : Int) = i by omega, getA_lt (by rw [h1]; exact g1)] at this
  rw [this]
  simp
abbrev s_rt : PureT := spec [cI, .sl cSc] [.sl cRow] (fun x => decide (2 ≤ x.1 ∧ x.1 ≤ 16)) (fun x => (tbV x.1 (cntM x.2.1), ()))
noncomputable def X_rt : Ctx := ctxL Try.prog plRt [(86, Try.f86)] [((nRt, 3), s_u0)]
theorem X_rt_ok : CtxOk X_rt := ctxL_ok mixed puRt (fns_cons is_rtable fns_nil) (loops_cons (loops_of (ds := [lb_rt 0, lb_rt 1]) (by kernel_rfl) ⟨one_key (k := 3) (by kernel_rfl) rfl l_u0, no_key (k := 7) (by kernel_rfl) rfl, trivial⟩) loops_nil)
abbrev TRt := Tree (TCTs [.sl cRow])
def U_rt (y : Option (Left' E_u0)) : TRt := bif isE (.exit 0) y then .leaf ((valE (E := E_u0) (.exit 0) y).1.1, ()) else .fail
def mk32 {β : Type} (m : Int) (k : Tree β) : Tree β := bif decide (0 ≤ m ∧ m ≤ m ∧ m ≤ 65536 ∧ ((32 : Nat) : Int) * m ≤ 281474976710656) then k else .fail
def T_rt (n : Int) (l : LSh) : TRt := mk32 n (U_rt (iter st_u0 (n.toNat + 1) (hd_u0 n l (List.replicate n.toNat zR) 0)))
theorem T_rt_ok (n : Int) (l : LSh) (h : 2 ≤ n ∧ n ≤ 16) : (T_rt n l).sat (fun y => y = (tbV n (cntM l), ())) := by
  unfold T_rt mk32
  rw [decide_eq_true (by omega), cond_true, u0_run _ _ h.2 h.1, rwU_all]
  exact rfl
theorem q_rtable : PureOk Try.prog nRt s_rt := q_by X_rt_ok 6 (fun x => T_rt x.1 x.2.1) (fun x => by kernel_rfl) fun x h _ => T_rt_ok x.1 x.2.1 (of_decide_eq_true h)
/-! Table -/
theorem is_rTable : FnIs Try.prog (42, Try.f42) := ⟨Try.func42, by kernel_rfl, by kernel_rfl⟩
noncomputable def plRT : List (Nat × PureT) := (66, s_chk) :: (nRt, s_rt) :: []
theorem puRT : PuOk Try.prog plRT := puOk_cons is_rsh.plain q_rsheets (puOk_cons is_rtable.plain q_rtable puOk_nil)
theorem is_rblock : FnIs Try.prog (84, Try.f84) := ⟨Try.func84, by kernel_rfl, by kernel_rfl⟩
noncomputable def X_rT : Ctx := ctx Try.prog plRT [(42, Try.f42), (84, Try.f84)]
theorem X_rT_ok : CtxOk X_rT := ctx_ok mixed puRT (fns_cons is_rTable (fns_cons is_rblock fns_nil))
abbrev TRT := Tree (TCTs [.sl cRow, cI])
def T_rT (n : Int) (l : LSh) : TRT := bif decide (n ≥ 2) then (bif !decide (n ≤ 16) then .leaf ([], 3, ()) else bif chkV l != 0 then .leaf ([], chkV l, ()) else bif decide (2 ≤ n ∧ n ≤ 16) then .leaf (tbV n (cntM l), 0, ()) else .fail) else .leaf ([], 3, ())
theorem T_rT_ok (n : Int) (l : LSh) : (T_rT n l).sat (fun y => y = (tblV n l, blkV n l, ())) := by
  unfold T_rT tblV blkV
  by_cases h1 : n ≥ 2
  · rw [decide_eq_true h1, decide_eq_false (show ¬ n < 2 by omega)]
    simp only [cond_true, cond_false]
    by_cases h2 : n ≤ 16
    · rw [decide_eq_true h2, decide_eq_false (show ¬ n > 16 by omega), decide_eq_true (show 2 ≤ n ∧ n ≤ 16 from ⟨h1, h2⟩)]
      simp only [Bool.not_true, cond_false, cond_true]
      cases h : chkV l != 0 with
      | true => exact rfl
      | false =>
        have h0 : chkV l = 0 := by simpa [bne] using h
        rw [h0]
        exact rfl
    · rw [decide_eq_false h2, decide_eq_true (show n > 16 by omega)]
      exact rfl
  · rw [decide_eq_false h1, decide_eq_true (show n < 2 by omega)]
    exact rfl
theorem q_rTable : PureOk Try.prog 42 s_Table := q_by X_rT_ok 6 (fun x => T_rT x.1 x.2.1) (fun x => by kernel_rfl) fun x _ _ => T_rT_ok x.1 x.2.1
end Ev
end V
end Go.Proofs.Ytgchccljmjmibaa
