/- The law EventBlocks: the number of a game in the reference; loops. -/
import Derived.Test.YtgchccljmjmibaaJi
import Derived.Test.YtgchccljmjmibaaJd
import Derived.Test.YtgchccljmjmibaaBk
import Derived.Test.YtgchccljmjmibaaEkg
namespace Go.Proofs.Ytgchccljmjmibaa
open Go.RowKit
namespace V
namespace Ev
theorem is_rGame : FnIs Try.prog (41, Try.f41) := ⟨Try.func41, by kernel_rfl, by kernel_rfl⟩
theorem is_rblkB : FnIs Try.prog (84, Try.f84) := ⟨Try.func84, by kernel_rfl, by kernel_rfl⟩
noncomputable def plRg : List (Nat × PureT) := (nNu, s_num) :: []
theorem puRg : PuOk Try.prog plRg := puOk_cons is_rnum.plain q_rnum puOk_nil
noncomputable def X_rG : Ctx := ctx Try.prog plRg [(41, Try.f41), (84, Try.f84)]
theorem X_rG_ok : CtxOk X_rG := ctx_ok mixed puRg (fns_cons is_rGame (fns_cons is_rblkB fns_nil))
abbrev TRg := Tree (TCTs [cI, cI])
def T_rG (n a b : Int) : TRg := bif decide (n ≥ 2) then (bif !decide (n ≤ 16) then .leaf (0, 3, ()) else bif decide (a < 0) then .leaf (0, 2, ()) else bif decide (b < 0) then .leaf (0, 2, ()) else bif decide (a ≥ n) then .leaf (0, 2, ()) else bif decide (b ≥ n) then .leaf (0, 2, ()) else bif a == b then .leaf (0, 2, ()) else bif okN n (min a b) (max a b) then .leaf (numW n (min a b) (max a b), 0, ()) else .fail) else .leaf (0, 3, ())
theorem T_rG_ok (n a b : Int) : (T_rG n a b).sat (fun y => y = ((gameV n a b).1, (gameV n a b).2, ())) := by
  unfold T_rG gameV
  by_cases h1 : n ≥ 2
  · rw [decide_eq_true h1, decide_eq_false (show ¬ n < 2 by omega)]
    by_cases h2 : n ≤ 16
    · rw [decide_eq_true h2, decide_eq_false (show ¬ n > 16 by omega)]
      simp only [cond_true, cond_false, Bool.not_true]
      by_cases h3 : a < 0
      · rw [decide_eq_true h3, decide_eq_true (show min a b < 0 by omega)]; exact rfl
      by_cases h4 : b < 0
      · rw [decide_eq_false h3, decide_eq_true h4, decide_eq_true (show min a b < 0 by omega)]; exact rfl
      rw [decide_eq_false h3, decide_eq_false h4, decide_eq_false (show ¬ min a b < 0 by omega)]
      simp only [cond_false]
      by_cases h5 : a ≥ n
      · rw [decide_eq_true h5, decide_eq_true (show max a b ≥ n by omega)]; exact rfl
      by_cases h6 : b ≥ n
      · rw [decide_eq_false h5, decide_eq_true h6, decide_eq_true (show max a b ≥ n by omega)]; exact rfl
      rw [decide_eq_false h5, decide_eq_false h6, decide_eq_false (show ¬ max a b ≥ n by omega)]
      simp only [cond_false]
      by_cases h7 : a = b
      · rw [show (a == b) = true by simpa using h7]; exact rfl
      · rw [show (a == b) = false by simpa using h7, show okN n (min a b) (max a b) = true from decide_eq_true (by omega), min_num]
        exact rfl
    · rw [decide_eq_false h2, decide_eq_true (show n > 16 by omega)]; exact rfl
  · rw [decide_eq_false h1, decide_eq_true (show n < 2 by omega)]; exact rfl
theorem q_rGame : PureOk Try.prog 41 s_Game := q_by X_rG_ok 6 (fun x => T_rG x.1 x.2.1 x.2.2.1) (fun x => by kernel_rfl) fun x _ _ => T_rG_ok x.1 x.2.1 x.2.2.1
/-! the law's loops -/
theorem is_lebl : FnIs Try.prog (12, Try.f12) := ⟨Try.func12, by kernel_rfl, by kernel_rfl⟩
abbrev nEb : Nat := 12
noncomputable def plEb : List (Nat × PureT) := (18, s_RoundsT) :: (nRr, s_RoundsT) :: (19, s_Game) :: (41, s_Game) :: (38, s_Table) :: (42, s_Table) :: (39, s_Places) :: (nRp, s_Places) :: (37, s_pairs) :: (25, s_ints) :: (15, s_fine) :: []
theorem puEb : PuOk Try.prog plEb := puOk_cons is_eRounds.plain q_eRounds (puOk_cons is_rRounds.plain q_rRounds (puOk_cons is_w16.plain q_Game (puOk_cons is_rGame.plain q_rGame (puOk_cons is_eTable.plain q_eTable (puOk_cons is_rTable.plain q_rTable (puOk_cons is_ipl.plain q_ePlaces (puOk_cons is_rPlaces.plain q_rPlaces (puOk_cons is_pairs.plain q_pairs (puOk_cons is_ints.plain q_ints (puOk_cons is_w12.plain q_fine puOk_nil))))))))))
noncomputable def XEb : Ctx := ctx Try.prog plEb []
theorem XEb_ok : CtxOk XEb := ctx_ok mixed puEb fns_nil
noncomputable def lb_eb (k : Nat) : Code := (loopsOf (bodyOf Try.f12)).getD k .skip
def L_w0 : Lay := { keys := [0, 1, 2, 3, 9, 11, 13], ks := [.d cI, .d (.sl cSc), .d cI, .d cI, .d (.sl cLP2), .d (.sl cLP2), .d cI], bs := [], n := 157, nx := 1000, marks := [] }
def R_w0 : Lay := { keys := [0, 1, 2, 3], ks := [.d cI, .d (.sl cSc), .d cI, .d cI], bs := [], n := 157, nx := 1000, marks := [] }
def Rr_w (nx : Nat) : Lay := { keys := [8], ks := [.d .b], bs := [], n := 157, nx := nx, marks := [] }
def E_w0 : XE → Lay := fun e => match e with | .ret => Rr_w 1000 | _ => R_w0
def L_w1 : Lay := { keys := [0, 1, 16, 18, 20], ks := [.d cI, .d (.sl cSc), .d (.sl cRow), .d (.sl cRow), .d cI], bs := [], n := 157, nx := 2000, marks := [] }
def R_w1 : Lay := { keys := [0, 1], ks := [.d cI, .d (.sl cSc)], bs := [], n := 157, nx := 2000, marks := [] }
def E_w1 : XE → Lay := fun e => match e with | .ret => Rr_w 2000 | _ => R_w1
abbrev cW0 := L_w0.T ⊕ Left' E_w0
abbrev cW1 := L_w1.T ⊕ Left' E_w1
def hd_w0 (n : Int) (l : LSh) (a b : Int) (x y : List LP) (i : Int) : L_w0.T := ((n, l, a, b, x, y, i, ()), ())
def ex_w0 (n : Int) (l : LSh) (a b : Int) : Left' E_w0 := ⟨.exit 0, ((n, l, a, b, ()), ())⟩
def rt_w0 : Left' E_w0 := ⟨.ret, ((false, ()), ())⟩
def gL (x : List LP) (i : Int) : LP := getA x (Int.toNat i) (dflt cLP2)
def sm_w0 (n : Int) (l : LSh) (a b : Int) (x y : List LP) (i : Int) : Tree cW0 := bif decide (i < (x.length : Int)) then inN x.length i (inN y.length i (bif !decide (gL x i = gL y i) then .leaf (.inr rt_w0) else .leaf (.inl (hd_w0 n l a b x y (W64 (i + 1)))))) else .leaf (.inr (ex_w0 n l a b))
def st_w0 (g : L_w0.T) : Tree cW0 := sm_w0 g.1.1 g.1.2.1 g.1.2.2.1 g.1.2.2.2.1 g.1.2.2.2.2.1 g.1.2.2.2.2.2.1 g.1.2.2.2.2.2.2.1
def fu_w0 (g : L_w0.T) : Nat := (g.1.2.2.2.2.1 : List LP).length + 1
theorem e_w0 (g : L_w0.T) : evC Try.prog (evFn XEb 6) XEb.pures nEb XEb.u (fun _ => none) (lb_eb 0) (L_w0.of g) (stepOut L_w0 E_w0) = st_w0 g := by kernel_rfl
def hd_w1 (n : Int) (l : LSh) (s t : Rows) (i : Int) : L_w1.T := ((n, l, s, t, i, ()), ())
def ex_w1 (n : Int) (l : LSh) : Left' E_w1 := ⟨.exit 2, ((n, l, ()), ())⟩
def rt_w1 : Left' E_w1 := ⟨.ret, ((false, ()), ())⟩
def eqR5 (a b : TCT cRow) : Bool := a.1 == b.1 && (a.2.1 == b.2.1 && (a.2.2.1 == b.2.2.1 && (a.2.2.2.1 == b.2.2.2.1 && true)))
def sm_w1 (n : Int) (l : LSh) (s t : Rows) (i : Int) : Tree cW1 := bif decide (i < (s.length : Int)) then inN s.length i (inN t.length i (bif !eqR5 (getA s (Int.toNat i) (dflt cRow)) (getA t (Int.toNat i) (dflt cRow)) then .leaf (.inr rt_w1) else .leaf (.inl (hd_w1 n l s t (W64 (i + 1)))))) else .leaf (.inr (ex_w1 n l))
def st_w1 (g : L_w1.T) : Tree cW1 := sm_w1 g.1.1 g.1.2.1 g.1.2.2.1 g.1.2.2.2.1 g.1.2.2.2.2.1
def fu_w1 (g : L_w1.T) : Nat := (g.1.2.2.1 : Rows).length + 1
theorem e_w1 (g : L_w1.T) : evC Try.prog (evFn XEb 6) XEb.pures nEb XEb.u (fun _ => none) (lb_eb 1) (L_w1.of g) (stepOut L_w1 E_w1) = st_w1 g := by kernel_rfl
noncomputable def s_w0 : St → Tree (XE × St) := loopSum L_w0 E_w0 (finX [.ret, .exit 0] st_w0 fu_w0)
noncomputable def s_w1 : St → Tree (XE × St) := loopSum L_w1 E_w1 (finX [.ret, .exit 2] st_w1 fu_w1)
theorem l_w0 : LoopOk Try.prog nEb (lb_eb 0) s_w0 := loopOk_x0 XEb_ok 6 _ L_w0 E_w0 (fun e => by cases e <;> exact Nat.le_refl _) [.ret, .exit 0] st_w0 fu_w0 e_w0
theorem l_w1 : LoopOk Try.prog nEb (lb_eb 1) s_w1 := loopOk_x0 XEb_ok 6 _ L_w1 E_w1 (fun e => by cases e <;> exact Nat.le_refl _) [.ret, .exit 2] st_w1 fu_w1 e_w1
end Ev
open Ev
abbrev cs_eventBlocks : List TC := [cI, .sl Ev.cSc, cI, cI]
noncomputable def X_eventBlocks : Ctx := ctxL Try.prog plEb [(12, Try.f12)] [((nEb, 8), s_w0), ((nEb, 19), s_w1)]
theorem X_eventBlocks_ok : CtxOk X_eventBlocks := ctxL_ok mixed puEb (fns_cons is_lebl fns_nil) (loops_cons (loops_of (ds := [lb_eb 0, lb_eb 1]) (by kernel_rfl) ⟨one_key (k := 8) (by kernel_rfl) rfl l_w0, one_key (k := 19) (by kernel_rfl) rfl l_w1, trivial⟩) loops_nil)
end V
end Go.Proofs.Ytgchccljmjmibaa
/-! The law EventBlocks. -/
namespace Go.Proofs.Ytgchccljmjmibaa
open Go.RowKit
namespace V
namespace Ev
def z2_eb (g : R_w1.T) : Tree Unit := bif decide (plcV g.1.1 g.1.2.1 = plcV g.1.1 g.1.2.1) then (bif blkV g.1.1 g.1.2.1 == blkV g.1.1 g.1.2.1 then .leaf () else .fail) else .fail
def y2_eb (y : Option (Left' E_w1)) : Tree Unit := bif isE .ret y then (bif (valE (E := E_w1) .ret y).1.1 then .leaf () else .fail) else bif isE (.exit 2) y then z2_eb (valE (E := E_w1) (.exit 2) y) else .fail
def z1_eb (g : R_w0.T) : Tree Unit := bif (gameV g.1.1 g.1.2.2.1 g.1.2.2.2.1).1 != (gameV g.1.1 g.1.2.2.1 g.1.2.2.2.1).1 then .fail else bif (gameV g.1.1 g.1.2.2.1 g.1.2.2.2.1).2 != (gameV g.1.1 g.1.2.2.1 g.1.2.2.2.1).2 then .fail else bif blkV g.1.1 g.1.2.1 != blkV g.1.1 g.1.2.1 then .fail else
  bif ((tblV g.1.1 g.1.2.1).length : Int) != ((tblV g.1.1 g.1.2.1).length : Int) then .fail else y2_eb (iter st_w1 ((tblV g.1.1 g.1.2.1).length + 1) (hd_w1 g.1.1 g.1.2.1 (tblV g.1.1 g.1.2.1) (tblV g.1.1 g.1.2.1) 0))
def y1_eb (y : Option (Left' E_w0)) : Tree Unit := bif isE .ret y then (bif (valE (E := E_w0) .ret y).1.1 then .leaf () else .fail) else bif isE (.exit 0) y then z1_eb (valE (E := E_w0) (.exit 0) y) else .fail
def K_eb (n : Int) (l : LSh) (a b : Int) : Tree Unit := bif (rdV n).2 != (rdV n).2 then .fail else bif ((rdV n).1.length : Int) != ((rdV n).1.length : Int) then .fail else y1_eb (iter st_w0 ((rdV n).1.length + 1) (hd_w0 n l a b (rdV n).1 (rdV n).1 0))
def T_eb (n : Int) (l : LSh) (a b : Int) : Tree Unit := bif decide ((l.length : Int) > 60) then (bif decide ((l.length : Int) ≤ 400) then .leaf () else bif decide ((l.length : Int) > 500) then .leaf () else K_eb n l a b) else bif decide ((l.length : Int) > 500) then .leaf () else K_eb n l a b
theorem T_eb_eq (y : TCTs cs_eventBlocks) : evFn X_eventBlocks 7 (.fn nEb) (encAs cs_eventBlocks y) noHeap 0 lawK = T_eb y.1 y.2.1 y.2.2.1 y.2.2.2.1 := by kernel_rfl
theorem eqL_self {α : Type} (eq : α → α → Bool) (h : ∀ a, eq a a = true) : ∀ l : List α, eqL eq l l = true
  | [] => rfl
  | x :: l => by
    have := eqL_self eq h l
    unfold eqL at this ⊢
    rw [List.zip_cons_cons, List.all_cons, this, h]
    rfl
theorem w0_run (n : Int) (l : LSh) (a b : Int) (x : List LP) (hx : x.length ≤ 100) : iter st_w0 (x.length + 1) (hd_w0 n l a b x x 0) = some (ex_w0 n l a b) := by
  have := iter_same (st := st_w0) (u := x) (v := x) rfl (fun p q => decide (p = q)) (fun i => hd_w0 n l a b x x i) rt_w0 (ex_w0 n l a b) (fun i hi hj => by
    show (sm_w0 n l a b x x i).run = _
    unfold sm_w0
    rw [decide_eq_true (show (i : Int) < (x.length : Int) by omega), inN_ok (by omega), inN_ok (by omega), W64_id (n := (i : Int) + 1) (by omega) (by omega)]
    simp only [decide_true]
    rfl) (by
    show (sm_w0 n l a b x x x.length).run = _
    unfold sm_w0
    rw [decide_eq_false (show ¬ (x.length : Int) < (x.length : Int) by omega)]
    rfl) x.length 0 (x.length + 1) (by omega) (by omega)
  have e := eqL_self (fun p q : LP => decide (p = q)) (fun p => by simp) x
  rw [List.drop_zero, e] at this
  exact this
theorem eqR5_self (a : TCT cRow) : eqR5 a a = true := by unfold eqR5; simp
theorem w1_run (n : Int) (l : LSh) (t : Rows) (hl : t.length ≤ 16) : iter st_w1 (t.length + 1) (hd_w1 n l t t 0) = some (ex_w1 n l) := by
  have := iter_same (st := st_w1) (u := t) (v := t) rfl eqR5 (fun i => hd_w1 n l t t i) rt_w1 (ex_w1 n l) (fun i hi hj => by
    show (sm_w1 n l t t i).run = _
    unfold sm_w1
    rw [decide_eq_true (show (i : Int) < (t.length : Int) by omega), inN_ok (by omega), inN_ok (by omega), W64_id (n := (i : Int) + 1) (by omega) (by omega), eqR5_self, eqR5_self]
    rfl) (by
    show (sm_w1 n l t t t.length).run = _
    unfold sm_w1
    rw [decide_eq_false (show ¬ (t.length : Int) < (t.length : Int) by omega)]
    rfl) t.length 0 (t.length + 1) (by omega) (by omega)
  rw [List.drop_zero, eqL_self _ eqR5_self] at this
  exact this
theorem tblV_le (n : Int) (l : LSh) : (tblV n l).length ≤ 16 := by
  unfold tblV
  cases h : blkV n l != 0 with
  | true => simp
  | false =>
    have h0 : blkV n l = 0 := by simpa [bne] using h
    obtain ⟨h2, h16, _⟩ := blk_in n l h0
    rw [cond_false, tbV_len]
    omega
theorem rnds_le : ∀ k : Nat, k ≤ 16 → (rnds k).length ≤ 100 := by decide +kernel
theorem rdV_le (n : Int) : (rdV n).1.length ≤ 100 := by
  unfold rdV
  cases h : inB2 n with
  | true =>
    have := of_decide_eq_true h
    exact rnds_le n.toNat (by omega)
  | false => simp
theorem K_eb_ok (n : Int) (l : LSh) (a b : Int) : (K_eb n l a b).sat fun _ => True := by
  unfold K_eb
  simp only [bne_self_eq_false, cond_false]
  rw [w0_run n l a b _ (rdV_le n)]
  show (z1_eb ((n, l, a, b, ()), ())).sat _
  unfold z1_eb
  simp only [bne_self_eq_false, cond_false]
  rw [w1_run n l _ (tblV_le n l)]
  show (z2_eb ((n, l, ()), ())).sat _
  unfold z2_eb
  simp only [decide_true, beq_self_eq_true, cond_true]
  trivial
theorem T_eb_ok (n : Int) (l : LSh) (a b : Int) : (T_eb n l a b).sat fun _ => True := by
  have hk := K_eb_ok n l a b
  unfold T_eb
  exact sat_cond (fun _ => sat_cond (fun _ => trivial) fun _ => sat_cond (fun _ => trivial) fun _ => hk) fun _ => sat_cond (fun _ => trivial) fun _ => hk
end Ev
open Ev
theorem eventBlocks_sat : LawSat X_eventBlocks nEb cs_eventBlocks 7 := lawSat 7 (fun y => T_eb y.1 y.2.1 y.2.2.1 y.2.2.2.1) T_eb_eq fun y _ => T_eb_ok y.1 y.2.1 y.2.2.1 y.2.2.2.1
end V
end Go.Proofs.Ytgchccljmjmibaa
