/- Chapter 11: sheets: both checks say the same; the sheets that count: loops. -/
import Derived.Test.YtgchccljmjmibaaEe
namespace Go.Proofs.Ytgchccljmjmibaa
open Go.RowKit
namespace V
namespace Ev
theorem is_chk : FnIs Try.prog (64, Try.f64) := ⟨Try.func64, by kernel_rfl, by kernel_rfl⟩
theorem is_rsh : FnIs Try.prog (66, Try.f66) := ⟨Try.func66, by kernel_rfl, by kernel_rfl⟩
theorem is_cnt : FnIs Try.prog (65, Try.f65) := ⟨Try.func65, by kernel_rfl, by kernel_rfl⟩
theorem is_cnt1 : FnIs Try.prog (99, Try.f99) := ⟨Try.func99, by kernel_rfl, by kernel_rfl⟩
theorem is_cnt2 : FnIs Try.prog (100, Try.f100) := ⟨Try.func100, by kernel_rfl, by kernel_rfl⟩
theorem is_cnt3 : FnIs Try.prog (101, Try.f101) := ⟨Try.func101, by kernel_rfl, by kernel_rfl⟩
theorem is_bef : FnIs Try.prog (102, Try.f102) := ⟨Try.func102, by kernel_rfl, by kernel_rfl⟩
theorem is_rlater : FnIs Try.prog (103, Try.f103) := ⟨Try.func103, by kernel_rfl, by kernel_rfl⟩
theorem is_rcounts : FnIs Try.prog (67, Try.f67) := ⟨Try.func67, by kernel_rfl, by kernel_rfl⟩
noncomputable def lb_sh : Code := (loopsOf (bodyOf Try.f66)).getD 0 .skip
def L_sh : Lay := { keys := [0, 3], ks := [.d (.sl cSc), .d cI], bs := [], n := 41, nx := 1000, marks := [] }
def R_sh : Lay := { keys := [], ks := [], bs := [], n := 41, nx := 1000, marks := [] }
def Rt_sh : Lay := { keys := [2], ks := [.d cI], bs := [], n := 41, nx := 1000, marks := [] }
def E_sh : XE → Lay := fun e => match e with | .ret => Rt_sh | _ => R_sh
abbrev cSh := L_sh.T ⊕ Left' E_sh
abbrev s_c1 : PureT := spec [cSc] [cI] (fun _ => true) (fun x => (x.1.2.1, ()))
abbrev s_c2 : PureT := spec [cSc] [cI] (fun _ => true) (fun x => (x.1.2.2.1, ()))
abbrev s_c3 : PureT := spec [cSc] [cI] (fun _ => true) (fun x => (x.1.2.2.2.1, ()))
theorem q_c1 : PureOk Try.prog 99 s_c1 := q_leaf (ctx_ok mixed puOk_nil (fns_cons is_cnt1 fns_nil)) 3 (fun _ => by kernel_rfl)
theorem q_c2 : PureOk Try.prog 100 s_c2 := q_leaf (ctx_ok mixed puOk_nil (fns_cons is_cnt2 fns_nil)) 3 (fun _ => by kernel_rfl)
theorem q_c3 : PureOk Try.prog 101 s_c3 := q_leaf (ctx_ok mixed puOk_nil (fns_cons is_cnt3 fns_nil)) 3 (fun _ => by kernel_rfl)
noncomputable def plCo : List (Nat × PureT) := [(99, s_c1), (100, s_c2), (101, s_c3)]
theorem puCo : PuOk Try.prog plCo := puOk_cons is_cnt1.plain q_c1 (puOk_cons is_cnt2.plain q_c2 (puOk_cons is_cnt3.plain q_c3 puOk_nil))
noncomputable def XCo : Ctx := ctxU 4 Try.prog plCo [(102, Try.f102)]
theorem XCo_ok : CtxOk XCo := ctxU_ok (u := 4) mixed puCo (fns_cons is_bef fns_nil)
noncomputable def lb_co : Code := (loopsOf (bodyOf Try.f65)).getD 0 .skip
abbrev kRu : List SK := [.f 99 [] [], .f 100 [] [], .f 101 [] []]
def L_co (k : Nat) : Lay := { keys := [3, 4, 14, 15, 16], ks := [.sli k 0 1 3 3, .q (k + 1), .d (.sl cSc), .d cI, .d cI], bs := [(k, 146, kRu), (k + 1, 0, [.m cI cSc])], n := 41, nx := 1000, marks := [] }
def R_co (k : Nat) : Lay := { keys := [4], ks := [.q (k + 1)], bs := [(k + 1, 0, [.m cI cSc])], n := 41, nx := 1000, marks := [] }
def E_co (k : Nat) : XE → Lay := fun _ => R_co k
abbrev cCo (k : Nat) := (L_co k).T ⊕ Left' (E_co k)
/-! sheets: the reference's check -/
def rt_sh : Left' E_sh := ⟨.ret, ((2, ()), ())⟩
def ex_sh : Left' E_sh := ⟨.exit 0, ((), ())⟩
def hd_sh (l : List (TCT cSc)) (i : Int) : L_sh.T := ((l, i, ()), ())
def bd_sh (l : List (TCT cSc)) (i v w p : Int) : Tree cSh := bif decide (v < 0) then .leaf (.inr rt_sh) else bif decide (w < 0) then .leaf (.inr rt_sh) else bif decide (w > 1) then .leaf (.inr rt_sh) else bif decide (p < 1) then .leaf (.inr rt_sh) else bif decide (p > 26) then .leaf (.inr rt_sh) else .leaf (.inl (hd_sh l (W64 (i + 1))))
def sm_sh (l : List (TCT cSc)) (i : Int) (s : TCT cSc) : Tree cSh := bif decide (i < (l.length : Int)) then inN l.length i (bd_sh l i s.2.1 s.2.2.1 s.2.2.2.1) else .leaf (.inr ex_sh)
def st_sh (g : L_sh.T) : Tree cSh := sm_sh g.1.1 g.1.2.1 (getA (g.1.1 : List (TCT cSc)) (Int.toNat g.1.2.1) (dflt cSc))
def fu_sh (g : L_sh.T) : Nat := (g.1.1 : List (TCT cSc)).length + 1
theorem e_sh (g : L_sh.T) : evC Try.prog (evFn XDq 6) XDq.pures 66 XDq.u (fun _ => none) lb_sh (L_sh.of g) (stepOut L_sh E_sh) = st_sh g := by kernel_rfl
theorem clr1_iff (w : Int) (h1 : -9223372036854775808 ≤ w) (h2 : w ≤ 9223372036854775807) : (clr1 w != 0) = (decide (w < 0) || decide (w > 1)) := by
  have key : (BitVec.ofInt 64 w &&& ~~~BitVec.ofInt 64 1 = 0#64) ↔ (w = 0 ∨ w = 1) := by
    constructor
    · intro h
      have hb : (BitVec.ofInt 64 w).toNat < 2 ^ 1 := by
        refine Nat.lt_pow_two_of_testBit _ fun i hi => ?_
        have h3 := congrArg (fun x => x.toNat.testBit i) h
        rcases Nat.lt_or_ge i 64 with h64 | h64
        · have h4 := congrArg (fun x => x.getLsbD i) h
          simp only [BitVec.getLsbD_and, BitVec.getLsbD_not, BitVec.getLsbD_zero] at h4
          have h5 : (BitVec.ofInt 64 1).getLsbD i = false := by
            rw [show BitVec.ofInt 64 1 = 1#64 from rfl, BitVec.getLsbD_one]
            simp; omega
          rw [h5] at h4
          simp only [h64, decide_true, Bool.not_false, Bool.and_true, Bool.true_and] at h4
          exact h4
        · exact Nat.testBit_lt_two_pow (Nat.lt_of_lt_of_le (BitVec.isLt _) (Nat.pow_le_pow_right (by omega) h64))
      rw [BitVec.toNat_ofInt] at hb
      omega
    · rintro (rfl | rfl) <;> rfl
  have e : clr1 w = W64 ↑(BitVec.toNat (BitVec.ofInt 64 w &&& ~~~BitVec.ofInt 64 1)) := rfl
  have hw : ∀ x : BitVec 64, W64 (x.toNat : Int) = 0 ↔ x = 0#64 := by
    intro x
    constructor
    · intro h
      have hx := x.isLt
      have : W64 (x.toNat : Int) = IntKind.wrap .i64 (x.toNat : Int) := rfl
      rw [this] at h
      unfold IntKind.wrap at h
      simp [IntKind.bits, IntKind.signed] at h
      apply BitVec.eq_of_toNat_eq
      rw [show (0#64).toNat = 0 from rfl]
      split at h <;> omega
    · rintro rfl; rfl
  have h3 := (hw (BitVec.ofInt 64 w &&& ~~~BitVec.ofInt 64 1)).trans key
  rw [← e] at h3
  rw [Bool.eq_iff_iff, bne_iff_ne, Bool.or_eq_true, decide_eq_true_iff, decide_eq_true_iff, Ne, h3]
  omega
theorem badS_or (s : TCT cSc) (h : WFD cSc s) : badS s = (decide (s.2.1 < 0) || (decide (s.2.2.1 < 0) || (decide (s.2.2.1 > 1) || (decide (s.2.2.2.1 < 1) || decide (s.2.2.2.1 > 26))))) := by
  unfold badS
  rw [clr1_iff s.2.2.1 h.2.2.1.1 h.2.2.1.2, Bool.or_assoc]
theorem bd_sh_run (l : List (TCT cSc)) (i : Int) (s : TCT cSc) (h : WFD cSc s) : (bd_sh l i s.2.1 s.2.2.1 s.2.2.2.1).run = some (bif badS s then .inr rt_sh else .inl (hd_sh l (W64 (i + 1)))) := by
  rw [badS_or s h]
  unfold bd_sh
  generalize decide (s.2.1 < 0) = a
  generalize decide (s.2.2.1 < 0) = b
  generalize decide (s.2.2.1 > 1) = c
  generalize decide (s.2.2.2.1 < 1) = d
  generalize decide (s.2.2.2.1 > 26) = e
  cases a <;> cases b <;> cases c <;> cases d <;> cases e <;> rfl
theorem sh_run (l : List (TCT cSc)) (hw : WFD (.sl cSc) l) : iter st_sh (l.length + 1) (hd_sh l 0) = some (bif l.any badS then rt_sh else ex_sh) := by
  have hl' : (l.length : Int) ≤ 9223372036854775807 := hw.1
  refine iter_find (st := st_sh) l (fun i => hd_sh l i) badS (fun _ => rt_sh) ex_sh (fun i hi => ?_) ?_
  · show (sm_sh l i (getA l (Int.toNat (i : Int)) (dflt cSc))).run = _
    unfold sm_sh inN
    rw [decide_eq_true (show (i : Int) < (l.length : Int) by omega), decide_eq_true (show 0 ≤ (i : Int) ∧ (i : Int) < (l.length : Int) by omega), show Int.toNat (i : Int) = i by omega, getA_lt hi]
    simp only [cond_true]
    rw [bd_sh_run l i l[i] (hw.2 _ (List.getElem_mem hi)), W64_id (n := (i : Int) + 1) (by omega) (by omega)]
    rfl
  · show (sm_sh l l.length (getA l (Int.toNat (l.length : Int)) (dflt cSc))).run = _
    unfold sm_sh
    rw [decide_eq_false (show ¬ (l.length : Int) < (l.length : Int) by omega)]
    rfl
abbrev s_chk : PureT := spec [.sl cSc] [cI] (fun _ => true) (fun x => (chkV x.1, ()))
noncomputable def X_sh : Ctx := ctxL Try.prog plDq [(66, Try.f66)] [((66, 4), loopSum L_sh E_sh (finX [.ret, .exit 0] st_sh fu_sh))]
theorem X_sh_ok : CtxOk X_sh := ctxL_ok mixed puDq (fns_cons is_rsh fns_nil) (loops_one (lb := lb_sh) (k := 4) (by kernel_rfl) (by kernel_rfl) (loopOk_x0 XDq_ok 6 _ L_sh E_sh (fun e => by cases e <;> exact Nat.le_refl _) [.ret, .exit 0] _ fu_sh e_sh))
def U_sh (y : Option (Left' E_sh)) : Tree (TCTs [cI]) := bif isE .ret y then .leaf ((valE .ret y).1.1, ()) else bif isE (.exit 0) y then .leaf (0, ()) else .fail
def T_sh (l : List (TCT cSc)) : Tree (TCTs [cI]) := bif decide ((l.length : Int) > 400) then .leaf (6, ()) else U_sh (iter st_sh (l.length + 1) (hd_sh l 0))
theorem T_sh_ok (l : List (TCT cSc)) (hw : WFD (.sl cSc) l) : (T_sh l).sat (fun y => y = (chkV l, ())) := by
  unfold T_sh chkV
  refine sat_cond (fun h => ?_) (fun h => ?_)
  · rw [h]; exact rfl
  rw [h, sh_run l hw]
  cases l.any badS <;> exact rfl
theorem q_rsheets : PureOk Try.prog 66 s_chk := q_by X_sh_ok 6 (fun x => T_sh x.1) (fun x => by kernel_rfl) fun x _ hw => T_sh_ok x.1 hw.1
def T_chk (l : List (TCT cSc)) : Tree (TCTs [cI]) := bif decide ((l.length : Int) > 400) then .leaf (6, ()) else bif l.any (p_Sco ()) then .leaf (2, ()) else .leaf (0, ())
theorem q_chk : PureOk Try.prog 64 s_chk := q_by (ctx_ok mixed (puOk_cons is_cfSco.plain q_cfSco puOk_nil) (fns_cons is_chk fns_nil)) 6 (fun x => T_chk x.1) (fun x => by kernel_rfl) fun x _ _ => by
  show (T_chk x.1).sat _
  unfold T_chk chkV
  refine sat_cond (fun h => ?_) (fun h => ?_)
  · rw [h]; exact rfl
  rw [h, show x.1.any (p_Sco ()) = x.1.any badS from rfl]
  cases x.1.any badS <;> exact rfl
/-! the sheets that count: a round -/
def eS (s : TCT cSc) : TCT cSc := (s.1, s.2.1, s.2.2.1, s.2.2.2.1, ())
abbrev cMp := Int → Option (TCT cSc)
section
variable {G E : Type} (hd : Int → cMp → G) (ex : cMp → E) (l : List (TCT cSc)) (n i : Int) (m : cMp)
def or0 (o : Option (TCT cSc)) : TCT cSc := o.getD (0, 0, 0, 0, ())
def pu_co (s : TCT cSc) : Tree (G ⊕ E) := .leaf (.inl (hd (W64 (i + 1)) (upd m s.1 (eS s))))
def ke_co : Tree (G ⊕ E) := .leaf (.inl (hd (W64 (i + 1)) m))
def b2_co (s o : TCT cSc) : Tree (G ⊕ E) :=
  bif s.2.1 != o.2.1 then (bif decide (s.2.1 > o.2.1) then pu_co hd i m s else ke_co hd i m) else bif s.2.2.1 != o.2.2.1 then (bif decide (s.2.2.1 > o.2.2.1) then pu_co hd i m s else ke_co hd i m) else bif s.2.2.2.1 != o.2.2.2.1 then (bif decide (s.2.2.2.1 > o.2.2.2.1) then pu_co hd i m s else ke_co hd i m) else ke_co hd i m
def bd_co (s : TCT cSc) : Tree (G ⊕ E) := bif !(m s.1).isSome then pu_co hd i m s else b2_co hd i m s (or0 (m s.1))
def sm_co : Tree (G ⊕ E) := bif decide (i < n) then inN l.length i (bd_co hd i m (getA l (Int.toNat i) (dflt cSc))) else .leaf (.inr (ex m))
end
/-! in sides: no block of the caller's -/
def hd_co0 (l : List (TCT cSc)) (n i : Int) (m : cMp) : (L_co 0).T := (((), (), l, n, i, ()), ((((), ()), ((), ()), ((), ()), ()), (m, ()), ()))
def ex_co0 (m : cMp) : Left' (E_co 0) := ⟨.exit 0, (((), ()), ((m, ()), ()))⟩
def st_co0 (g : (L_co 0).T) : Tree (cCo 0) := sm_co (hd_co0 g.1.2.2.1 g.1.2.2.2.1) ex_co0 g.1.2.2.1 g.1.2.2.2.1 g.1.2.2.2.2.1 g.2.2.1.1
def fu_co0 (g : (L_co 0).T) : Nat := (g.1.2.2.1 : List (TCT cSc)).length + 1
theorem e_co0 (g : (L_co 0).T) : evC Try.prog (evFn XCo 6) XCo.pures 65 XCo.u (fun _ => none) lb_co ((L_co 0).of g) (stepOut (L_co 0) (E_co 0)) = st_co0 g := by kernel_rfl
/-! in Counts: a block of the caller's lies there -/
abbrev kSc : List SK := [.d cI, .d cI, .d cI, .d cI]
def L_c1 : Lay := { keys := [3, 4, 14, 15, 16], ks := [.sli 1 0 1 3 3, .q 2, .d (.sl cSc), .d cI, .d cI], bs := [(0, 62, kSc), (1, 146, kRu), (2, 0, [.m cI cSc])], n := 41, nx := 1000, marks := [] }
def R_c1 : Lay := { keys := [4], ks := [.q 2], bs := [(0, 62, kSc), (2, 0, [.m cI cSc])], n := 41, nx := 1000, marks := [] }
def E_c1 : XE → Lay := fun _ => R_c1
abbrev cC1 := L_c1.T ⊕ Left' E_c1
def hd_c1 (z : SKTs kSc) (l : List (TCT cSc)) (n i : Int) (m : cMp) : L_c1.T := (((), (), l, n, i, ()), (z, (((), ()), ((), ()), ((), ()), ()), (m, ()), ()))
def ex_c1 (z : SKTs kSc) (m : cMp) : Left' E_c1 := ⟨.exit 0, (((), ()), (z, (m, ()), ()))⟩
def st_c1 (g : L_c1.T) : Tree cC1 := sm_co (hd_c1 g.2.1 g.1.2.2.1 g.1.2.2.2.1) (ex_c1 g.2.1) g.1.2.2.1 g.1.2.2.2.1 g.1.2.2.2.2.1 g.2.2.2.1.1
def fu_c1 (g : L_c1.T) : Nat := (g.1.2.2.1 : List (TCT cSc)).length + 1
theorem e_c1 (g : L_c1.T) : evC Try.prog (evFn XCo 6) XCo.pures 65 XCo.u (fun _ => none) lb_co (L_c1.of g) (stepOut L_c1 E_c1) = st_c1 g := by kernel_rfl
end Ev
end V
end Go.Proofs.Ytgchccljmjmibaa
