/- The law TacticsLeast: for all arguments it returns true. -/
import Derived.Test.YtdblbofagfhlbaaJc
import Derived.Test.YtdblbofagfhlbaaHe
namespace Go.Proofs.Ytdblbofagfhlbaa
open Go.RowKit
namespace V
theorem is_TacticsLeast : FnIs Try.prog (5, Try.f5) := ⟨Try.func5, by kernel_rfl, by kernel_rfl⟩
def plJd : List (Nat × PureT) := [(14, s_great), (15, s_wide), (17, s_Val), (21, s_Leave), (13, s_fine)]
theorem puJd : PuOk Try.prog plJd := puOk_cons is_great.plain q_great (puOk_cons is_wide.plain q_wide (puOk_cons is_tValue.plain q_Val (puOk_cons is_tLeave.plain q_Leave (puOk_cons is_fine.plain q_fine puOk_nil))))
abbrev kBd : List SK := [.d cI, .d cI, .d (.sl cI), .d cI, .d cI, .d cI, .d cI, .d cI, .d cI, .d cI, .d cI, .d cI, .d cI, .d cI, .d cI]
def brdB (x : SKTs kBd) : TCT cB := (x.1, x.2.1, x.2.2.1, ((x.2.2.2.1, x.2.2.2.2.1, ()), (x.2.2.2.2.2.1, x.2.2.2.2.2.2.1, ()), (x.2.2.2.2.2.2.2.1, x.2.2.2.2.2.2.2.2.1, ()), ()), ((x.2.2.2.2.2.2.2.2.2.1, x.2.2.2.2.2.2.2.2.2.2.1, ()), (x.2.2.2.2.2.2.2.2.2.2.2.1, x.2.2.2.2.2.2.2.2.2.2.2.2.1, ()), (x.2.2.2.2.2.2.2.2.2.2.2.2.2.1, x.2.2.2.2.2.2.2.2.2.2.2.2.2.2.1, ()), ()), ())
noncomputable def X_tl0 : Ctx := ctx Try.prog plJd []
theorem X_tl0_ok : CtxOk X_tl0 := ctx_ok mixed puJd fns_nil
noncomputable def lb_l1 : Code := (loopsOf (bodyOf Try.f5)).getD 0 .skip
noncomputable def lb_l2 : Code := (loopsOf (bodyOf Try.f5)).getD 1 .skip
def bs_l1 : List BK := [(0, 33, kBd)]
def L_l1 : Lay := { keys := [1, 2, 5], ks := [.d cScs, .p 0 0 0 0, .d cI], bs := bs_l1, n := 106, nx := 1000, marks := [] }
def R_l1 : Lay := { keys := [1, 2], ks := [.d cScs, .p 0 0 0 0], bs := bs_l1, n := 106, nx := 1000, marks := [] }
def Q_l1 : Lay := { keys := [4], ks := [.d .b], bs := [], n := 106, nx := 1000, marks := [] }
def E_l1 : XE → Lay
  | .ret => Q_l1
  | _ => R_l1
def hd_l1 (x : SKTs kBd) (l : List (TCT cSc)) (i : Int) : L_l1.T := ((l, (), i, ()), (x, ()))
def ex_l1 (x : SKTs kBd) (l : List (TCT cSc)) : Left' E_l1 := ⟨.exit 0, ((l, (), ()), (x, ()))⟩
def rt_l1 : Left' E_l1 := ⟨.ret, ((true, ()), ())⟩
def st_l1 (x : SKTs kBd) (l : List (TCT cSc)) (i : Int) : Tree (L_l1.T ⊕ Left' E_l1) := bif decide (i < (l.length : Int)) then bif decide (0 ≤ i ∧ i < (l.length : Int)) then
  bif wideF (getA l i.toNat (dflt cSc)) then .leaf (.inr rt_l1) else .leaf (.inl (hd_l1 x l (W64 (i + 1)))) else .fail else .leaf (.inr (ex_l1 x l))
theorem e_l1 (g : L_l1.T) : evC Try.prog (evFn X_tl0 7) X_tl0.pures 5 X_tl0.u (fun _ => none) lb_l1 (L_l1.of g) (stepOut L_l1 E_l1) = st_l1 g.2.1 g.1.1 g.1.2.2.1 := by kernel_rfl
def okL (l : List (TCT cSc)) (i : Int) : Bool := decide (i = 0)
def fin_l1 (g : L_l1.T) : Tree (Left' E_l1) := .br (okL g.1.1 g.1.2.2.1) (.br (g.1.1.any wideF) (.leaf rt_l1) (.leaf (ex_l1 g.2.1 g.1.1))) .fail
theorem l_l1 : LoopOk Try.prog 5 lb_l1 (loopSum L_l1 E_l1 fin_l1) := by
  refine loopOk_of (X := X_tl0) X_tl0_ok 7 5 (fun _ => none) (fun _ _ f h => by simp at h) L_l1 E_l1 (fun e => by cases e <;> exact Nat.le_refl _) fin_l1 (fun g => st_l1 g.2.1 g.1.1 g.1.2.2.1) e_l1 ?_
  rintro ⟨⟨l, ⟨⟩, i, ⟨⟩⟩, ⟨x, ⟨⟩⟩⟩ R hw hf
  obtain ⟨hf, h0⟩ := hf
  by_cases hc : i = 0
  · subst hc
    have hf : (l.any wideF = true → R rt_l1) ∧ (l.any wideF = false → R (ex_l1 x l)) := hf (decide_eq_true rfl)
    refine forL l (dflt cSc) (wfl_len hw.1.1) (fun _ i _ => hd_l1 x l i) (fun y i (_ : Unit) => bif wideF y then .inr rt_l1 else .inl ()) (fun _ => ex_l1 x l) (fun _ => True) (fun y i _ => bif wideF y then .leaf (.inr rt_l1) else .leaf (.inl (hd_l1 x l (W64 (i + 1))))) (fun i _ => rfl) ?_ () trivial ?_
    · intro i _ hi Q _ _ hw1 hQ
      rw [hw1]
      cases hp : wideF l[i] with
      | true => rw [hp] at hQ; exact hQ
      | false => rw [hp] at hQ; exact hQ trivial
    · rw [run_any wideF (fun _ => rt_l1) (ex_l1 x l) l 0]
      cases ha : l.any wideF with
      | true => exact hf.1 ha
      | false => exact hf.2 ha
  · exact (h0 (decide_eq_false hc)).elim
/-! the second loop -/
def L_l2 : Lay := { keys := [1, 2, 6, 7, 9], ks := [.d cScs, .p 0 0 0 0, .d cI, .p 1000 0 0 0, .d cI], bs := [(0, 33, kBd), (1000, 24, [.d cI, .d cI])], n := 106, nx := 2000, marks := [] }
def R_l2 : Lay := { keys := [], ks := [], bs := [], n := 106, nx := 2000, marks := [] }
def Q_l2 : Lay := { keys := [4], ks := [.d .b], bs := [], n := 106, nx := 2000, marks := [] }
def E_l2 : XE → Lay
  | .ret => Q_l2
  | _ => R_l2
def hd_l2 (x : SKTs kBd) (l : List (TCT cSc)) (n : Int) (v : TCT cC) (i : Int) : L_l2.T := ((l, (), n, (), i, ()), (x, (v.1, v.2.1, ()), ()))
def ex_l2 : Left' E_l2 := ⟨.exit 2, ((), ())⟩
def rt_l2 : Left' E_l2 := ⟨.ret, ((false, ()), ())⟩
abbrev Tl2 := Tree (L_l2.T ⊕ Left' E_l2)
def tail_l2 (w v : TCT cC) (n i : Int) (k : Tl2) : Tl2 := bif i == n then bif !(w.1 == v.1 && (w.2.1 == v.2.1 && true)) then .leaf (.inr rt_l2) else k else k
def row_l2 (e : Int) (w v : TCT cC) (n i : Int) (k : Tl2) : Tl2 := bif e != 0 then .leaf (.inr rt_l2) else bif decide (w.2.1 < v.2.1) then .leaf (.inr rt_l2) else
  bif decide (i < n) then bif w.2.1 == v.2.1 then .leaf (.inr rt_l2) else tail_l2 w v n i k else tail_l2 w v n i k
def gd (b : TCT cB) (v : TCT cC) (n i : Int) (y : TCT cSc) : Bool := !(sceneE b y != 0) && (!decide ((valF b y).2.1 < v.2.1) && (!(decide (i < n) && (valF b y).2.1 == v.2.1) && !((i == n) && !((valF b y).1 == v.1 && ((valF b y).2.1 == v.2.1 && true)))))
theorem row_l2_ok {b : TCT cB} {v : TCT cC} {n i : Int} {y : TCT cSc} {k : Tl2} {Q : L_l2.T ⊕ Left' E_l2 → Prop} (h : bif gd b v n i y then k.sat Q else Q (.inr rt_l2)) : (row_l2 (sceneE b y) (valF b y) v n i k).sat Q := by
  unfold gd at h
  unfold row_l2 tail_l2
  generalize (sceneE b y != 0) = a1 at h ⊢
  generalize decide ((valF b y).2.1 < v.2.1) = a2 at h ⊢
  generalize decide (i < n) = a3 at h ⊢
  generalize ((valF b y).2.1 == v.2.1) = a4 at h ⊢
  generalize (i == n) = a5 at h ⊢
  generalize ((valF b y).1 == v.1) = a6 at h ⊢
  revert h
  cases a1 <;> cases a2 <;> cases a3 <;> cases a4 <;> cases a5 <;> cases a6 <;> exact fun h => h
def st_l2 (x : SKTs kBd) (l : List (TCT cSc)) (n : Int) (v : TCT cC) (i : Int) : Tl2 := bif decide (i < (l.length : Int)) then bif decide (0 ≤ i ∧ i < (l.length : Int)) then
  row_l2 (sceneE (brdB x) (getA l i.toNat (dflt cSc))) (valF (brdB x) (getA l i.toNat (dflt cSc))) v n i (.leaf (.inl (hd_l2 x l n v (W64 (i + 1))))) else .fail else .leaf (.inr ex_l2)
def vl2 (g : L_l2.T) : TCT cC := g.2.2.1
theorem e_l2 (g : L_l2.T) : evC Try.prog (evFn X_tl0 7) X_tl0.pures 5 X_tl0.u (fun _ => none) lb_l2 (L_l2.of g) (stepOut L_l2 E_l2) = st_l2 g.2.1 g.1.1 g.1.2.2.1 (vl2 g) g.1.2.2.2.2.1 := by kernel_rfl
theorem run_all {α B : Type} (p : α → Nat → Bool) (r e : B) : ∀ (l : List α) (i : Nat), (∀ k (h : k < l.length), p l[k] (i + k) = true) → runL (fun x i (_ : Unit) => bif p x i then .inl () else .inr r) (fun _ => e) l i () = e
  | [], _, _ => rfl
  | x :: l, i, h => by
    have h0 := h 0 (by simp)
    simp only [List.getElem_cons_zero, Nat.add_zero] at h0
    simp only [runL, h0, cond_true]
    exact run_all p r e l (i + 1) fun k hk => by
      have := h (k + 1) (by simp; omega)
      rw [List.getElem_cons_succ] at this
      rw [show i + 1 + k = i + (k + 1) by omega]; exact this
def okAll (b : TCT cB) (l : List (TCT cSc)) (n : Int) (v : TCT cC) : Bool := (List.range l.length).all fun (k : Nat) => gd b v n (k : Int) (getA l k (dflt cSc))
def fin_l2' (b : TCT cB) (l : List (TCT cSc)) (n : Int) (v : TCT cC) (i : Int) : Tree (Left' E_l2) := .br (okL l i && okAll b l n (v.1, v.2.1, ())) (.leaf ex_l2) .fail
def fin_l2 (g : L_l2.T) : Tree (Left' E_l2) := fin_l2' (brdB g.2.1) g.1.1 g.1.2.2.1 (vl2 g) g.1.2.2.2.2.1
theorem l_l2 : LoopOk Try.prog 5 lb_l2 (loopSum L_l2 E_l2 fin_l2) := by
  refine loopOk_of (X := X_tl0) X_tl0_ok 7 5 (fun _ => none) (fun _ _ f h => by simp at h) L_l2 E_l2 (fun e => by cases e <;> exact Nat.le_refl _) fin_l2 (fun g => st_l2 g.2.1 g.1.1 g.1.2.2.1 (vl2 g) g.1.2.2.2.2.1) e_l2 ?_
  rintro ⟨⟨l, ⟨⟩, n, ⟨⟩, i, ⟨⟩⟩, ⟨x, ⟨v1, v2, ⟨⟩⟩, ⟨⟩⟩⟩ R hw hf
  obtain ⟨hf, h0⟩ := hf
  change (okL l i && okAll (brdB x) l n (v1, v2, ())) = true → R ex_l2 at hf
  change (okL l i && okAll (brdB x) l n (v1, v2, ())) = false → False at h0
  cases hk : okL l i && okAll (brdB x) l n (v1, v2, ()) with
  | false => exact (h0 hk).elim
  | true =>
    have hf2 := hf hk
    rw [Bool.and_eq_true] at hk
    have hi : i = 0 := of_decide_eq_true hk.1
    subst hi
    have hall := List.all_eq_true.1 hk.2
    refine forL l (dflt cSc) (wfl_len hw.1.1) (fun _ i _ => hd_l2 x l n (v1, v2, ()) i) (fun y i (_ : Unit) => bif gd (brdB x) (v1, v2, ()) n (i : Int) y then .inl () else .inr rt_l2) (fun _ => ex_l2) (fun _ => True) (fun y i _ => row_l2 (sceneE (brdB x) y) (valF (brdB x) y) (v1, v2, ()) n i (.leaf (.inl (hd_l2 x l n (v1, v2, ()) (W64 (i + 1)))))) (fun i _ => rfl) ?_ () trivial ?_
    · intro i _ hi Q _ _ hw1 hQ
      refine row_l2_ok ?_
      rw [hw1]
      cases hg : gd (brdB x) (v1, v2, ()) n (i : Int) l[i] with
      | true => rw [hg] at hQ; exact hQ trivial
      | false => rw [hg] at hQ; exact hQ
    · rw [run_all (fun y i => gd (brdB x) (v1, v2, ()) n (i : Int) y) rt_l2 ex_l2 l 0 fun k hk => by
        have := hall k (List.mem_range.2 hk)
        rw [getA_lt hk] at this
        rw [Nat.zero_add]; exact this]
      exact hf2
noncomputable def X_tacticsLeast : Ctx := ctxL Try.prog plJd [(5, Try.f5)] [((5, 4), loopSum L_l1 E_l1 fin_l1), ((5, 14), loopSum L_l2 E_l2 fin_l2)]
abbrev cs_tacticsLeast : List TC := [cB, cScs]
def T_ls (b : TCT cB) (l : List (TCT cSc)) : Tree Unit := bif greatF b then .leaf () else bif decide ((l.length : Int) > 10) then .leaf () else
  bif okL l 0 then bif l.any wideF then .leaf () else
  bif leaveE b l != 0 then bif leaveN b l == 0 then bif (leaveV b l).1 == 0 && ((leaveV b l).2.1 == 0 && true) then .leaf () else .fail else .fail else
  bif decide (leaveN b l < 0) then .fail else bif decide (leaveN b l ≥ (l.length : Int)) then .fail else
  bif okL l 0 && okAll b l (leaveN b l) ((leaveV b l).1, (leaveV b l).2.1, ()) then .leaf () else .fail else .fail
def TY_ls (y : TCTs cs_tacticsLeast) : Tree Unit := T_ls y.1 y.2.1
theorem TY_ls_eq (x : TCTs cs_tacticsLeast) : evFn X_tacticsLeast 8 (.fn 5) (encAs cs_tacticsLeast x) noHeap 0 lawK = TY_ls x := by kernel_rfl
theorem leave0 {b : TCT cB} {l : List (TCT cSc)} (h : (leaveE b l == 0) = true) : bOk b = true ∧ l ≠ [] ∧ l.all (placeOk b) = true := by
  have h : leaveE b l = 0 := by simpa using h
  unfold leaveE at h
  cases hb : bOk b with
  | false => rw [hb] at h; cases h
  | true =>
    cases h0 : (l.length : Int) == 0 with
    | true => rw [hb, h0] at h; cases h
    | false =>
      have hne : l ≠ [] := fun e => by rw [e] at h0; cases h0
      cases h1 : decide ((l.length : Int) > 64) with
      | true => rw [hb, h0, h1] at h; cases h
      | false =>
        cases h2 : l.all (placeOk b) with
        | false => rw [hb, h0, h1, h2] at h; cases h
        | true => exact ⟨rfl, hne, rfl⟩
theorem gd_ok {b : TCT cB} {v w : TCT cC} {n i : Int} {y : TCT cSc} (h0 : sceneE b y = 0) (hv : valF b y = w) (h1 : ¬ w.2.1 < v.2.1) (h2 : ¬ (i < n ∧ w.2.1 = v.2.1)) (h3 : i = n → w.1 = v.1 ∧ w.2.1 = v.2.1) : gd b v n i y = true := by
  unfold gd
  rw [h0, hv, decide_eq_false h1]
  have e2 : (decide (i < n) && w.2.1 == v.2.1) = false := by
    cases hx : (decide (i < n) && w.2.1 == v.2.1) with
    | false => rfl
    | true => rw [Bool.and_eq_true] at hx; exact absurd ⟨of_decide_eq_true hx.1, eq_of_beq hx.2⟩ h2
  rw [e2]
  cases hi : i == n with
  | false => rfl
  | true =>
    obtain ⟨a, c⟩ := h3 (eq_of_beq hi)
    rw [a, c, beq_self_eq_true, beq_self_eq_true]
    rfl
theorem T_ls_ok (b : TCT cB) (l : List (TCT cSc)) : (T_ls b l).sat (fun _ => True) := by
  unfold T_ls
  refine sat_cond (fun _ => trivial) fun _ => sat_cond (fun _ => trivial) fun hn => ?_
  have hk : okL l 0 = true := rfl
  rw [hk, cond_true]
  refine sat_cond (fun _ => trivial) fun _ => ?_
  cases h0 : leaveE b l == 0 with
  | false =>
    have e : (leaveE b l != 0) = true := by unfold bne; rw [h0]; rfl
    rw [e, cond_true]
    unfold leaveN leaveV
    rw [h0]
    trivial
  | true =>
    have e : (leaveE b l != 0) = false := by unfold bne; rw [h0]; rfl
    obtain ⟨hb, hne, hall⟩ := leave0 h0
    rw [e, cond_false]
    have hB := okB_of hb
    have hall := List.all_eq_true.1 hall
    have hlen : (Vs b l).length = l.length := by unfold Vs; rw [List.length_map]
    have hv : Vs b l ≠ [] := fun e => hne (by unfold Vs at e; simpa using e)
    obtain ⟨f1, f2, f3, f4⟩ := at_facts hv (fun x hx => by
      unfold Vs at hx
      rw [List.mem_map] at hx
      obtain ⟨y, hy, rfl⟩ := hx
      have hP := place_okP (hall y hy)
      have hu := Val_upto hB hP
      have h1 := hP.h
      have h2 := hB.n
      obtain ⟨u1, u2, u3⟩ := hu
      unfold room at u3
      show 0 ≤ vHi (Val b (placeF y)) ∧ vHi (Val b (placeF y)) ≤ 100000000
      omega)
    have eN : leaveN b l = at_Lv (Vs b l) := by unfold leaveN; rw [h0]; rfl
    have eV : leaveV b l = getA (Vs b l) (at_Lv (Vs b l)).toNat (dflt cC) := by unfold leaveV; rw [h0]; rfl
    rw [eN, eV]
    rw [decide_eq_false (show ¬ at_Lv (Vs b l) < 0 by omega), decide_eq_false (show ¬ at_Lv (Vs b l) ≥ (l.length : Int) by omega), cond_false, cond_false]
    have hok : okAll b l (at_Lv (Vs b l)) ((getA (Vs b l) (at_Lv (Vs b l)).toNat (dflt cC)).1, (getA (Vs b l) (at_Lv (Vs b l)).toNat (dflt cC)).2.1, ()) = true := by
      refine List.all_eq_true.2 fun k hk => ?_
      rw [List.mem_range] at hk
      have hp := hall _ (List.getElem_mem hk)
      rw [getA_lt hk]
      have hs : sceneE b l[k] = 0 := by unfold sceneE; rw [hb, hp]; rfl
      have hvk : valF b l[k] = getA (Vs b l) k (dflt cC) := by
        rw [getA_lt (by omega)]
        unfold valF Vs
        rw [hb, hp, List.getElem_map]
        rfl
      have g3 := f3 k (by omega)
      have ek : hiAt (Vs b l) (k : Int) = (getA (Vs b l) k (dflt cC)).2.1 := by
        unfold hiAt
        rw [show (k : Int).toNat = k by omega]
      have en : hiAt (Vs b l) (at_Lv (Vs b l)) = (getA (Vs b l) (at_Lv (Vs b l)).toNat (dflt cC)).2.1 := rfl
      rw [ek, en] at g3
      refine gd_ok hs hvk (Int.not_lt.2 g3) (fun h => ?_) (fun h => ?_)
      · have := f4 k h.1
        rw [ek, en, h.2] at this
        exact absurd this (Int.lt_irrefl _)
      · have e : (at_Lv (Vs b l)).toNat = k := by omega
        rw [e]
        exact ⟨rfl, rfl⟩
    rw [hok]
    trivial
theorem X_tacticsLeast_ok : CtxOk X_tacticsLeast := ctxL_ok mixed puJd (fns_cons is_TacticsLeast fns_nil) (by
  intro p hp d hd g hg
  rw [List.mem_singleton] at hp
  subst hp
  have hl : loopsOf (bodyOf Try.f5) = [lb_l1, lb_l2] := by kernel_rfl
  simp only at hd hg
  rw [hl] at hd
  simp only [List.mem_cons, List.not_mem_nil, or_false] at hd
  rcases hd with rfl | rfl
  · have hk : keyOf lb_l1 = 4 := by kernel_rfl
    rw [hk] at hg
    have h2 : some (loopSum L_l1 E_l1 fin_l1) = some g := hg
    cases h2
    exact l_l1
  · have hk : keyOf lb_l2 = 14 := by kernel_rfl
    rw [hk] at hg
    have h2 : some (loopSum L_l2 E_l2 fin_l2) = some g := hg
    cases h2
    exact l_l2)
theorem tacticsLeast_sat : LawSat X_tacticsLeast 5 cs_tacticsLeast 8 := lawSat 8 TY_ls TY_ls_eq (fun _ _ => T_ls_ok _ _)
end V
end Go.Proofs.Ytdblbofagfhlbaa
