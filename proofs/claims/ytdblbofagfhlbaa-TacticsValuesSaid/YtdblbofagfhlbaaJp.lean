/- The reference: distances, acts. -/
import Derived.Test.YtdblbofagfhlbaaJn
namespace Go.Proofs.Ytdblbofagfhlbaa
open Go.RowKit
namespace V
theorem is_raway : FnIs Try.prog (75, Try.f75) := ⟨Try.func75, by kernel_rfl, by kernel_rfl⟩
theorem is_rDist : FnIs Try.prog (35, Try.f35) := ⟨Try.func35, by kernel_rfl, by kernel_rfl⟩
theorem is_racts : FnIs Try.prog (83, Try.f83) := ⟨Try.func83, by kernel_rfl, by kernel_rfl⟩
theorem is_rActs : FnIs Try.prog (40, Try.f40) := ⟨Try.func40, by kernel_rfl, by kernel_rfl⟩
abbrev s_raway : PureT := spec [cB, cI, cI] [cI] (fun x => x.1.1 != 0) (fun x => (awayF x.1 x.2.1 x.2.2.1, ()))
theorem q_raway : PureOk Try.prog 75 s_raway := q_by (ctx_ok mixed puOk_nil (fns_cons is_raway fns_nil)) 4 (fun x => T_away x.1 x.2.1 x.2.2.1) (fun x => by kernel_rfl) fun x h _ => T_away_ok x.1 x.2.1 x.2.2.1 h
def plRd : List (Nat × PureT) := [(37, s_Board), (74, s_rcell), (87, s_rcells), (75, s_raway), (16, s_rScene)]
theorem puRd : PuOk Try.prog plRd := puOk_cons is_rBoard.plain q_rBoard (puOk_cons is_rcell.plain q_rcell (puOk_cons is_rcells.plain q_rcells (puOk_cons is_raway.plain q_raway (puOk_cons is_rScene.plain q_rScene puOk_nil))))
def T_rD (b : TCT cB) (c d : Int) : TDi := bif boardF b != 0 then .leaf (0, boardF b, ()) else bif !cellOk b c then .leaf (0, 3, ()) else bif !cellOk b d then .leaf (0, 3, ()) else bif b.1 != 0 then .leaf (awayF b c d, 0, ()) else .fail
theorem T_rD_ok (b : TCT cB) (c d : Int) : (T_rD b c d).sat (fun y => y = (distV b c d, distE b c d, ())) := by
  unfold T_rD distV distE
  rw [board0]
  cases hb : bOk b with
  | false =>
    have e : boardF b = 2 := by unfold boardF; rw [hb]; rfl
    rw [e]
    exact rfl
  | true =>
    have hw := w_ne (okB_of hb)
    rw [Bool.not_true, cond_false]
    cases cellOk b c with
    | false => exact rfl
    | true =>
      cases cellOk b d with
      | false => exact rfl
      | true => rw [hw]; exact rfl
theorem q_rDist : PureOk Try.prog 35 s_Dist := q_by (ctx_ok mixed puRd (fns_cons is_rDist fns_nil)) 4 (fun x => T_rD x.1 x.2.1 x.2.2.1) (fun x => by kernel_rfl) fun x _ _ => T_rD_ok _ _ _
/-! acts: three loops that append -/
def bs_ra : List BK := [(0, 33, kBd), (1, 36, kSc)]
def L_ra1 : Lay := { keys := [2, 3, 5, 6], ks := [.p 0 0 0 0, .p 1 0 0 0, .o 55 cA, .d cI], bs := bs_ra, n := 52, nx := 1000, marks := [] }
def R_ra1 : Lay := { keys := [5], ks := [.o 55 cA], bs := [], n := 52, nx := 1000, marks := [] }
def L_ra2 : Lay := { keys := [2, 3, 5, 6, 7], ks := [.p 0 0 0 0, .p 1 0 0 0, .o 55 cA, .d cI, .d cI], bs := bs_ra, n := 52, nx := 2000, marks := [] }
def R_ra2 : Lay := { keys := [2, 3, 5, 6], ks := [.p 0 0 0 0, .p 1 0 0 0, .o 55 cA, .d cI], bs := bs_ra, n := 52, nx := 2000, marks := [] }
def L_ra3 : Lay := { keys := [2, 3, 5, 6, 7, 8], ks := [.p 0 0 0 0, .p 1 0 0 0, .o 55 cA, .d cI, .d cI, .d cI], bs := bs_ra, n := 52, nx := 3000, marks := [] }
def R_ra3 : Lay := { keys := [2, 3, 5, 6, 7], ks := [.p 0 0 0 0, .p 1 0 0 0, .o 55 cA, .d cI, .d cI], bs := bs_ra, n := 52, nx := 3000, marks := [] }
def E_ra1 : XE → Lay := fun _ => R_ra1
def E_ra2 : XE → Lay := fun _ => R_ra2
def E_ra3 : XE → Lay := fun _ => R_ra3
noncomputable def lb_ra1 : Code := (loopsOf (bodyOf Try.f83)).getD 0 .skip
noncomputable def lb_ra2 : Code := (loopsOf (bodyOf Try.f83)).getD 1 .skip
noncomputable def lb_ra3 : Code := (loopsOf (bodyOf Try.f83)).getD 2 .skip
noncomputable def X_ra0 : Ctx := ctx Try.prog plRd []
theorem X_ra0_ok : CtxOk X_ra0 := ctx_ok mixed puRd fns_nil
abbrev As : Type := List (TCT cA)
def hd_ra3 (b : TCT cB) (x : TCT cSc) (i u t : Int) (o : As) : L_ra3.T := (((), (), o, i, u, t, ()), (cellsBd b, x, ()))
def ex_ra3 (b : TCT cB) (x : TCT cSc) (i u : Int) (o : As) : Left' E_ra3 := ⟨.exit 4, (((), (), o, i, u, ()), (cellsBd b, x, ()))⟩
def actR (i u t : Int) : TCT cA := (2, i, u, t, ())
def st_ra3 (b : TCT cB) (x : TCT cSc) (i u t : Int) (o : As) : Tree (L_ra3.T ⊕ Left' E_ra3) := bif decide (t < cellsF b) then bif appOk o [actR i u t] 32 then .leaf (.inl (hd_ra3 b x i u (W64 (t + 1)) (o ++ [actR i u t]))) else .fail else .leaf (.inr (ex_ra3 b x i u o))
theorem e_ra3 (g : L_ra3.T) : evC Try.prog (evFn X_ra0 7) X_ra0.pures 83 X_ra0.u (fun _ => none) lb_ra3 (L_ra3.of g) (stepOut L_ra3 E_ra3) = st_ra3 (brdB g.2.1) g.2.2.1 g.1.2.2.2.1 g.1.2.2.2.2.1 g.1.2.2.2.2.2.1 g.1.2.2.1 := by kernel_rfl
/-- a list that grows by acts -/
def gAp (s : As) (a : TCT cA) : Option (As ⊕ Unit) := bif appOk s [a] 32 then some (.inl (s ++ [a])) else none
def apX (l : As) (s : As) : Option (As ⊕ Unit) := foldX gAp l s
def tosR (b : TCT cB) (i u : Int) : As := (List.range (cellsF b).toNat).map fun (t : Nat) => actR i u (t : Int)
def okC (b : TCT cB) (t : Int) : Bool := decide (t = 0 ∧ 0 ≤ cellsF b ∧ cellsF b ≤ 1000)
def fin_ra3' (b : TCT cB) (x : TCT cSc) (i u t : Int) (o : As) : Tree (Left' E_ra3) := .br (okC b t && okX (apX (tosR b i u) o)) (.leaf (ex_ra3 b x i u (gX [] (apX (tosR b i u) o)))) .fail
def fin_ra3 (g : L_ra3.T) : Tree (Left' E_ra3) := fin_ra3' (brdB g.2.1) g.2.2.1 g.1.2.2.2.1 g.1.2.2.2.2.1 g.1.2.2.2.2.2.1 g.1.2.2.1
theorem okX_some {S : Type} {y : Option (S ⊕ Unit)} (h : okX y = true) (d : S) : y = some (.inl (gX d y)) := by
  cases y with
  | none => cases h
  | some z => cases z with
    | inl s => rfl
    | inr u => cases h
theorem l_ra3 : LoopOk Try.prog 83 lb_ra3 (loopSum L_ra3 E_ra3 fin_ra3) := by
  refine loopOk_of (X := X_ra0) X_ra0_ok 7 83 (fun _ => none) (fun _ _ f h => by simp at h) L_ra3 E_ra3 (fun e => by cases e <;> exact Nat.le_refl _) fin_ra3 (fun g => st_ra3 (brdB g.2.1) g.2.2.1 g.1.2.2.2.1 g.1.2.2.2.2.1 g.1.2.2.2.2.2.1 g.1.2.2.1) e_ra3 ?_
  intro g R _ hf
  have key : ∀ (b : TCT cB) (x : TCT cSc) (i u t : Int) (o : As), (fin_ra3' b x i u t o).sat R → ∃ n, Rnds L_ra3 E_ra3 (fun g => st_ra3 (brdB g.2.1) g.2.2.1 g.1.2.2.2.1 g.1.2.2.2.2.1 g.1.2.2.2.2.2.1 g.1.2.2.1) R n (hd_ra3 b x i u t o) := by
    intro b x i u t o hf
    obtain ⟨hf, h0⟩ := hf
    cases hk : okC b t && okX (apX (tosR b i u) o) with
    | false => exact (h0 hk).elim
    | true =>
      have hf2 := hf hk
      rw [Bool.and_eq_true] at hk
      obtain ⟨rfl, c0, c1⟩ := of_decide_eq_true hk.1
      have hy := okX_some hk.2 []
      have hlen : (tosR b i u).length = (cellsF b).toNat := by unfold tosR; rw [List.length_map, List.length_range]
      refine ⟨_, rnds_foldX (tosR b i u) (fun (k : Nat) s => hd_ra3 b x i u (k : Int) s) gAp (fun y => match y with | .inl s => ex_ra3 b x i u s | .inr _ => ex_ra3 b x i u []) ?_ ?_ (tosR b i u).length 0 o (.inl (gX [] (apX (tosR b i u) o))) (by omega) (by rw [List.drop_zero]; exact hy) hf2⟩
      · intro k s1 y1 hk1 Q _ hg hQ
        have hk2 : k < (cellsF b).toNat := by omega
        have ea : (tosR b i u)[k] = actR i u (k : Int) := by simp only [tosR, List.getElem_map, List.getElem_range]
        rw [ea] at hg
        show (st_ra3 b x i u (k : Int) s1).sat Q
        unfold st_ra3
        rw [decide_eq_true (show (k : Int) < cellsF b by omega), cond_true]
        unfold gAp at hg
        cases ho : appOk s1 [actR i u (k : Int)] 32 with
        | false => rw [ho] at hg; cases hg
        | true =>
          rw [ho] at hg
          cases hg
          rw [show W64 ((k : Int) + 1) = ((k + 1 : Nat) : Int) from (W64_id (by omega) (by omega))]
          exact hQ
      · intro s1 Q hQ
        rw [hlen]
        show (st_ra3 b x i u ((cellsF b).toNat : Int) s1).sat Q
        unfold st_ra3
        rw [decide_eq_false (show ¬ ((cellsF b).toNat : Int) < cellsF b by omega)]
        exact hQ
  exact key (brdB g.2.1) g.2.2.1 _ _ _ g.1.2.2.1 hf
/-! the loop over sends -/
def Lt_ra2 : LoopT := fun k => bif Nat.beq k 11 then some (loopSum L_ra3 E_ra3 fin_ra3) else none
def hd_ra2 (b : TCT cB) (x : TCT cSc) (i u : Int) (o : As) : L_ra2.T := (((), (), o, i, u, ()), (cellsBd b, x, ()))
def ex_ra2 (b : TCT cB) (x : TCT cSc) (i : Int) (o : As) : Left' E_ra2 := ⟨.exit 2, (((), (), o, i, ()), (cellsBd b, x, ()))⟩
def deadA (x : TCT cSc) (i : Int) : Bool := getA (x.2.2.2.1 : List Bool) i.toNat (dflt .b)
def st_ra2 (b : TCT cB) (x : TCT cSc) (i u : Int) (o : As) : Tree (L_ra2.T ⊕ Left' E_ra2) := bif decide (u < cellsF b) then bif decide (0 ≤ i ∧ i < (x.2.2.2.1.length : Int)) then
    bif !deadA x i then bif okC b 0 && okX (apX (tosR b i u) o) then .leaf (.inl (hd_ra2 b x i (W64 (u + 1)) (gX [] (apX (tosR b i u) o)))) else .fail else .leaf (.inr (ex_ra2 b x i o))
  else .fail else .leaf (.inr (ex_ra2 b x i o))
theorem e_ra2 (g : L_ra2.T) : evC Try.prog (evFn X_ra0 7) X_ra0.pures 83 X_ra0.u Lt_ra2 lb_ra2 (L_ra2.of g) (stepOut L_ra2 E_ra2) = st_ra2 (brdB g.2.1) g.2.2.1 g.1.2.2.2.1 g.1.2.2.2.2.1 g.1.2.2.1 := by kernel_rfl
def sendsR (b : TCT cB) (i : Int) : As := (List.range (cellsF b).toNat).flatMap fun (u : Nat) => tosR b i (u : Int)
def rowR (b : TCT cB) (x : TCT cSc) (i : Int) : As := bif deadA x i then [] else sendsR b i
def okI2 (x : TCT cSc) (i : Int) : Bool := decide (0 ≤ i ∧ i < (x.2.2.2.1.length : Int))
def fin_ra2' (b : TCT cB) (x : TCT cSc) (i u : Int) (o : As) : Tree (Left' E_ra2) := .br (okC b u && (okI2 x i && okX (apX (rowR b x i) o))) (.leaf (ex_ra2 b x i (gX [] (apX (rowR b x i) o)))) .fail
def fin_ra2 (g : L_ra2.T) : Tree (Left' E_ra2) := fin_ra2' (brdB g.2.1) g.2.2.1 g.1.2.2.2.1 g.1.2.2.2.2.1 g.1.2.2.1
theorem gAp_in (s : As) (a : TCT cA) (b : Unit) : gAp s a ≠ some (.inr b) := by
  unfold gAp
  cases appOk s [a] 32 <;> exact fun h => nomatch h
theorem apX_okX {l o : As} {y : As ⊕ Unit} (h : apX l o = some y) : okX (apX l o) = true ∧ y = .inl (gX [] (apX l o)) := by
  cases y with
  | inl s => rw [h]; exact ⟨rfl, rfl⟩
  | inr u => exact absurd h (foldX_in gAp_in l o u)
theorem l_ra2 : LoopOk Try.prog 83 lb_ra2 (loopSum L_ra2 E_ra2 fin_ra2) := by
  refine loopOk_of (X := X_ra0) X_ra0_ok 7 83 Lt_ra2 ?_ L_ra2 E_ra2 (fun e => by cases e <;> exact Nat.le_refl _) fin_ra2 (fun g => st_ra2 (brdB g.2.1) g.2.2.1 g.1.2.2.2.1 g.1.2.2.2.2.1 g.1.2.2.1) e_ra2 ?_
  · intro d hd f hf
    have hl : loopsOf lb_ra2 = [lb_ra3] := by kernel_rfl
    rw [hl, List.mem_singleton] at hd
    subst hd
    have hk : keyOf lb_ra3 = 11 := by kernel_rfl
    rw [hk] at hf
    have : Lt_ra2 11 = some (loopSum L_ra3 E_ra3 fin_ra3) := rfl
    rw [this, Option.some.injEq] at hf
    subst hf
    exact l_ra3
  intro g R _ hf
  have key : ∀ (b : TCT cB) (x : TCT cSc) (i u : Int) (o : As), (fin_ra2' b x i u o).sat R → ∃ n, Rnds L_ra2 E_ra2 (fun g => st_ra2 (brdB g.2.1) g.2.2.1 g.1.2.2.2.1 g.1.2.2.2.2.1 g.1.2.2.1) R n (hd_ra2 b x i u o) := by
    intro b x i u o hf
    obtain ⟨hf, h0⟩ := hf
    cases hk : okC b u && (okI2 x i && okX (apX (rowR b x i) o)) with
    | false => exact (h0 hk).elim
    | true =>
      have hf2 := hf hk
      rw [Bool.and_eq_true, Bool.and_eq_true] at hk
      obtain ⟨hk1, hk2, hk3⟩ := hk
      obtain ⟨rfl, c0, c1⟩ := of_decide_eq_true hk1
      cases hd : deadA x i with
      | true =>
        refine ⟨1, fun _ => ?_⟩
        show (st_ra2 b x i 0 o).sat _
        unfold st_ra2
        have hr : R (ex_ra2 b x i o) := by
          unfold rowR at hf2
          rw [hd] at hf2
          exact hf2
        rw [show decide (0 ≤ i ∧ i < (x.2.2.2.1.length : Int)) = true from hk2, hd]
        cases decide ((0 : Int) < cellsF b) with
        | true => exact fun _ => hr
        | false => exact fun _ => hr
      | false =>
        have hy := okX_some hk3 []
        have er : rowR b x i = sendsR b i := by unfold rowR; rw [hd]; rfl
        rw [er] at hy hf2
        unfold apX sendsR at hy
        rw [foldX_flat] at hy
        refine ⟨_, rnds_foldX (List.range (cellsF b).toNat) (fun (k : Nat) s => hd_ra2 b x i (k : Int) s) (fun s (u : Nat) => foldX gAp (tosR b i (u : Int)) s) (fun y => match y with | .inl s => ex_ra2 b x i s | .inr _ => ex_ra2 b x i []) ?_ ?_ (List.range (cellsF b).toNat).length 0 o _ (by omega) (by rw [List.drop_zero]; exact hy) (by
          have : R (ex_ra2 b x i (gX [] (apX (sendsR b i) o))) := hf2
          unfold apX sendsR at this
          rw [foldX_flat] at this
          exact this)⟩
        · intro k s1 y1 hk4 Q _ hg hQ
          rw [List.length_range] at hk4
          rw [List.getElem_range] at hg
          obtain ⟨q1, q2⟩ := apX_okX hg
          subst q2
          show (st_ra2 b x i (k : Int) s1).sat Q
          unfold st_ra2
          rw [decide_eq_true (show (k : Int) < cellsF b by omega), cond_true, show decide (0 ≤ i ∧ i < (x.2.2.2.1.length : Int)) = true from hk2, hd, hk1, q1, show W64 ((k : Int) + 1) = ((k + 1 : Nat) : Int) from (W64_id (by omega) (by omega))]
          exact hQ
        · intro s1 Q hQ
          rw [List.length_range]
          show (st_ra2 b x i ((cellsF b).toNat : Int) s1).sat Q
          unfold st_ra2
          rw [decide_eq_false (show ¬ ((cellsF b).toNat : Int) < cellsF b by omega)]
          exact hQ
  exact key (brdB g.2.1) g.2.2.1 _ _ g.1.2.2.1 hf
/-! the loop over balls -/
def Lt_ra1 : LoopT := fun k => bif Nat.beq k 8 then some (loopSum L_ra2 E_ra2 fin_ra2) else none
def hd_ra1 (b : TCT cB) (x : TCT cSc) (i : Int) (o : As) : L_ra1.T := (((), (), o, i, ()), (cellsBd b, x, ()))
def ex_ra1 (o : As) : Left' E_ra1 := ⟨.exit 0, ((o, ()), ())⟩
def st_ra1 (b : TCT cB) (x : TCT cSc) (i : Int) (o : As) : Tree (L_ra1.T ⊕ Left' E_ra1) := bif decide (i < (x.2.2.1.length : Int)) then
    bif okC b 0 && (okI2 x i && okX (apX (rowR b x i) o)) then .leaf (.inl (hd_ra1 b x (W64 (i + 1)) (gX [] (apX (rowR b x i) o)))) else .fail else .leaf (.inr (ex_ra1 o))
theorem e_ra1 (g : L_ra1.T) : evC Try.prog (evFn X_ra0 7) X_ra0.pures 83 X_ra0.u Lt_ra1 lb_ra1 (L_ra1.of g) (stepOut L_ra1 E_ra1) = st_ra1 (brdB g.2.1) g.2.2.1 g.1.2.2.2.1 g.1.2.2.1 := by kernel_rfl
def rowsR (b : TCT cB) (x : TCT cSc) : As := (List.range (x.2.2.1.length : Nat)).flatMap fun (i : Nat) => rowR b x (i : Int)
def okB1 (b : TCT cB) (x : TCT cSc) (i : Int) : Bool := decide (i = 0 ∧ (x.2.2.1.length : Int) ≤ 1000 ∧ (x.2.2.2.1.length : Int) = (x.2.2.1.length : Int)) && okC b 0
def fin_ra1' (b : TCT cB) (x : TCT cSc) (i : Int) (o : As) : Tree (Left' E_ra1) := .br (okB1 b x i && okX (apX (rowsR b x) o)) (.leaf (ex_ra1 (gX [] (apX (rowsR b x) o)))) .fail
def fin_ra1 (g : L_ra1.T) : Tree (Left' E_ra1) := fin_ra1' (brdB g.2.1) g.2.2.1 g.1.2.2.2.1 g.1.2.2.1
theorem l_ra1 : LoopOk Try.prog 83 lb_ra1 (loopSum L_ra1 E_ra1 fin_ra1) := by
  refine loopOk_of (X := X_ra0) X_ra0_ok 7 83 Lt_ra1 ?_ L_ra1 E_ra1 (fun e => by cases e <;> exact Nat.le_refl _) fin_ra1 (fun g => st_ra1 (brdB g.2.1) g.2.2.1 g.1.2.2.2.1 g.1.2.2.1) e_ra1 ?_
  · intro d hd f hf
    have hl : loopsOf lb_ra1 = [lb_ra2, lb_ra3] := by kernel_rfl
    rw [hl] at hd
    simp only [List.mem_cons, List.not_mem_nil, or_false] at hd
    rcases hd with rfl | rfl
    · have hk : keyOf lb_ra2 = 8 := by kernel_rfl
      rw [hk] at hf
      have : Lt_ra1 8 = some (loopSum L_ra2 E_ra2 fin_ra2) := rfl
      rw [this, Option.some.injEq] at hf
      subst hf
      exact l_ra2
    · have hk : keyOf lb_ra3 = 11 := by kernel_rfl
      rw [hk] at hf
      exact nomatch (show (none : Option (St → Tree (XE × St))) = some f from hf)
  intro g R _ hf
  have key : ∀ (b : TCT cB) (x : TCT cSc) (i : Int) (o : As), (fin_ra1' b x i o).sat R → ∃ n, Rnds L_ra1 E_ra1 (fun g => st_ra1 (brdB g.2.1) g.2.2.1 g.1.2.2.2.1 g.1.2.2.1) R n (hd_ra1 b x i o) := by
    intro b x i o hf
    obtain ⟨hf, h0⟩ := hf
    cases hk : okB1 b x i && okX (apX (rowsR b x) o) with
    | false => exact (h0 hk).elim
    | true =>
      have hf2 := hf hk
      rw [Bool.and_eq_true] at hk
      obtain ⟨hk1, hk3⟩ := hk
      unfold okB1 at hk1
      rw [Bool.and_eq_true] at hk1
      obtain ⟨hk1, hk2⟩ := hk1
      obtain ⟨rfl, c0, c1⟩ := of_decide_eq_true hk1
      have hy := okX_some hk3 []
      unfold apX rowsR at hy
      rw [foldX_flat] at hy
      refine ⟨_, rnds_foldX (List.range (x.2.2.1.length : Nat)) (fun (k : Nat) s => hd_ra1 b x (k : Int) s) (fun s (i : Nat) => foldX gAp (rowR b x (i : Int)) s) (fun y => match y with | .inl s => ex_ra1 s | .inr _ => ex_ra1 []) ?_ ?_ (List.range (x.2.2.1.length : Nat)).length 0 o _ (by omega) (by rw [List.drop_zero]; exact hy) (by
        have : R (ex_ra1 (gX [] (apX (rowsR b x) o))) := hf2
        unfold apX rowsR at this
        rw [foldX_flat] at this
        exact this)⟩
      · intro k s1 y1 hk4 Q _ hg hQ
        rw [List.length_range] at hk4
        rw [List.getElem_range] at hg
        obtain ⟨q1, q2⟩ := apX_okX hg
        subst q2
        have hI : okI2 x (k : Int) = true := decide_eq_true (by rw [c1]; omega)
        show (st_ra1 b x (k : Int) s1).sat Q
        unfold st_ra1
        rw [decide_eq_true (show (k : Int) < (x.2.2.1.length : Int) by omega), cond_true, hk2, hI, q1, show W64 ((k : Int) + 1) = ((k + 1 : Nat) : Int) from (W64_id (by omega) (by omega))]
        exact hQ
      · intro s1 Q hQ
        rw [List.length_range]
        show (st_ra1 b x ((x.2.2.1.length : Nat) : Int) s1).sat Q
        unfold st_ra1
        rw [decide_eq_false (show ¬ ((x.2.2.1.length : Nat) : Int) < (x.2.2.1.length : Int) by omega)]
        exact hQ
  exact key (brdB g.2.1) g.2.2.1 _ g.1.2.2.1 hf
/-! its contract -/
noncomputable def X_rac : Ctx := ctxL Try.prog plRd [(83, Try.f83)] [((83, 5), loopSum L_ra1 E_ra1 fin_ra1)]
theorem X_rac_ok : CtxOk X_rac := ctxL_ok mixed puRd (fns_cons is_racts fns_nil) (by
  intro p hp d hd g hg
  rw [List.mem_singleton] at hp
  subst hp
  have hl : loopsOf (bodyOf Try.f83) = [lb_ra1, lb_ra2, lb_ra3] := by kernel_rfl
  simp only at hd hg
  rw [hl] at hd
  simp only [List.mem_cons, List.not_mem_nil, or_false] at hd
  rcases hd with rfl | rfl | rfl
  · have hk : keyOf lb_ra1 = 5 := by kernel_rfl
    rw [hk] at hg
    have h2 : some (loopSum L_ra1 E_ra1 fin_ra1) = some g := hg
    cases h2
    exact l_ra1
  · have hk : keyOf lb_ra2 = 8 := by kernel_rfl
    rw [hk] at hg
    exact nomatch (show (none : Option (St → Tree (XE × St))) = some g from hg)
  · have hk : keyOf lb_ra3 = 11 := by kernel_rfl
    rw [hk] at hg
    exact nomatch (show (none : Option (St → Tree (XE × St))) = some g from hg))
def T_rac (b : TCT cB) (x : TCT cSc) : Tree (TCTs [cAs]) := bif x.2.1 == (b.2.2.1.length : Int) then .leaf ([], ()) else
  bif okB1 b x 0 && okX (apX (rowsR b x) [runA]) then .leaf (gX [] (apX (rowsR b x) [runA]), ()) else .fail
theorem T_rac_eq (y : TCTs [cB, cSc]) : evFn X_rac 8 (.fn 83) (encAs [cB, cSc] y) noHeap 0 (outK Try.prog [cAs]) = T_rac y.1 y.2.1 := by kernel_rfl
abbrev s_racts : PureT := spec [cB, cSc] [cAs] (fun x => bOk x.1 && placeOk x.1 x.2.1) (fun x => (actsF x.1 (placeF x.2.1), ()))
theorem range_mul {β : Type} (f : Nat → β) (m : Nat) : ∀ n : Nat, (List.range (n * m)).map f = (List.range n).flatMap fun s => (List.range m).map fun t => f (s * m + t)
  | 0 => by simp
  | n + 1 => by
    rw [Nat.add_mul, Nat.one_mul, List.range_add, List.map_append, range_mul f m n, List.range_succ, List.flatMap_append, List.map_map]
    simp [Function.comp_def]
theorem roqs_sends {b : TCT cB} (hb : OkB b) (i : Int) : roqs b i (sq b) = sendsR b i := by
  obtain ⟨e, h1, h2⟩ := sq_eq hb
  have hc := hb.c.2
  unfold roqs sendsR tosR
  have en : (sq b).toNat = (cellsF b).toNat * (cellsF b).toNat := by
    rw [e, Int.toNat_mul (by omega) (by omega)]
  rw [en, range_mul]
  have : ∀ (l : List Nat) (f g : Nat → As), (∀ x ∈ l, f x = g x) → l.flatMap f = l.flatMap g := by
    intro l f g h
    induction l with
    | nil => rfl
    | cons a l ih =>
      rw [List.flatMap_cons, List.flatMap_cons, h a (List.mem_cons_self ..), ih fun x hx => h x (List.mem_cons_of_mem _ hx)]
  refine this _ _ _ fun s hs => List.map_congr_left fun t ht => ?_
  rw [List.mem_range] at hs ht
  have hk : (0 : Int) ≤ ((s * (cellsF b).toNat + t : Nat) : Int) ∧ ((s * (cellsF b).toNat + t : Nat) : Int) < sq b := by
    have h3 : s * (cellsF b).toNat + t < (cellsF b).toNat * (cellsF b).toNat := by
      have : (s + 1) * (cellsF b).toNat ≤ (cellsF b).toNat * (cellsF b).toNat := Nat.mul_le_mul_right _ (by omega)
      rw [Nat.add_mul, Nat.one_mul] at this
      omega
    omega
  obtain ⟨_, _, r3, r4, _⟩ := roq_ok hb (i := i) hk
  have hcN : ((cellsF b).toNat : Int) = cellsF b := by omega
  have ek : ((s * (cellsF b).toNat + t : Nat) : Int) = (s : Int) * cellsF b + (t : Int) := by
    rw [Int.natCast_add, Int.natCast_mul, hcN]
  have d1 : ((s : Int) * cellsF b + (t : Int)) / cellsF b = s := by
    rw [Int.add_comm, Int.add_mul_ediv_right _ _ (by omega), Int.ediv_eq_zero_of_lt (by omega) (by omega)]
    omega
  have d2 : ((s : Int) * cellsF b + (t : Int)) % cellsF b = t := by
    rw [Int.add_comm, Int.add_mul_emod_self_right]
    exact Int.emod_eq_of_lt (by omega) (by omega)
  rw [ek] at r3 r4
  rw [d1] at r3
  rw [d2] at r4
  rw [ek]
  show ((2, i, aS (roq b i ((s : Int) * cellsF b + (t : Int))), aT (roq b i ((s : Int) * cellsF b + (t : Int))), ()) : TCT cA) = actR i s t
  rw [r3, r4]
  rfl
theorem flat_congr {β : Type} : ∀ (l : List Nat) (f g : Nat → List β), (∀ x ∈ l, f x = g x) → l.flatMap f = l.flatMap g
  | [], _, _, _ => rfl
  | a :: l, f, g, h => by
    rw [List.flatMap_cons, List.flatMap_cons, h a (List.mem_cons_self ..), flat_congr l f g fun x hx => h x (List.mem_cons_of_mem _ hx)]
theorem rows_same {b : TCT cB} (hb : OkB b) {x : TCT cSc} (hp : OkP b (placeF x)) : rowsA b (cellsP (placeF x)) (placeF x).2.2.1 = rowsR b x := by
  have hn : pN (placeF x) = (((x.2.2.1 : List Int).length : Nat) : Int) := rfl
  have h2 := hp.n
  unfold rowsA rowsR
  have e : (placeF x).2.2.1.toNat = (x.2.2.1 : List Int).length := by
    show ((((x.2.2.1 : List Int).length : Nat) : Int)).toNat = _
    omega
  rw [e]
  refine flat_congr _ _ _ fun i hi => ?_
  rw [List.mem_range] at hi
  have hi2 : i = 0 ∨ i = 1 := by omega
  unfold rowA rowR
  rw [roqs_sends hb]
  rcases hi2 with rfl | rfl <;> rfl
theorem apX_eq (b : TCT cB) (x : TCT cSc) (l s : As) (h : s.length + l.length ≤ 100000) : apX l s = some (.inl (s ++ l)) := all_ac_eq (c_Ac b x) l s h
theorem okC_ok {b : TCT cB} (hb : OkB b) : okC b 0 = true := decide_eq_true ⟨rfl, by have := hb.c.2; omega, by have := hb.c.2; omega⟩
theorem T_rac_ok (b : TCT cB) (x : TCT cSc) (h : (bOk b && placeOk b x) = true) : (T_rac b x).sat (fun y => y = (actsF b (placeF x), ())) := by
  rw [Bool.and_eq_true] at h
  obtain ⟨hb, hp⟩ := h
  have hB := okB_of hb
  have hP := place_okP hp
  have e1 : (placeF x).2.1 = x.2.1 := rfl
  unfold T_rac actsF
  rw [e1]
  cases hh : x.2.1 == (b.2.2.1.length : Int) with
  | true => exact rfl
  | false =>
    rw [cond_false, cond_false]
    have hl := rows_len hB (q := cellsP (placeF x)) hP.n.2
    have hl : (rowsA b (cellsP (placeF x)) (placeF x).2.2.1).length ≤ 200 := hl
    rw [rows_same hB hP] at hl ⊢
    have hdl : (x.2.2.2.1.length : Int) = (x.2.2.1.length : Int) := by
      unfold placeOk at hp
      simp only [Bool.and_eq_true_iff] at hp
      exact of_decide_eq_true hp.2.2.2.1
    have hn : ((((x.2.2.1 : List Int).length : Nat) : Int)) ≤ 2 := hP.n.2
    have h1 : okB1 b x 0 = true := by
      unfold okB1
      rw [okC_ok hB, decide_eq_true (show (0 : Int) = 0 ∧ (x.2.2.1.length : Int) ≤ 1000 ∧ (x.2.2.2.1.length : Int) = (x.2.2.1.length : Int) from ⟨rfl, by omega, hdl⟩)]
      rfl
    have ea := apX_eq b x (rowsR b x) [runA] (by rw [List.length_singleton]; omega)
    rw [h1, ea]
    exact rfl
theorem q_racts : PureOk Try.prog 83 s_racts := q_by X_rac_ok 8 (fun x => T_rac x.1 x.2.1) T_rac_eq fun x h _ => T_rac_ok _ _ h
end V
end Go.Proofs.Ytdblbofagfhlbaa
