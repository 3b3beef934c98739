/- The chance of a record. -/
import Derived.Test.YtialgmhhkbdegaaGreatGd
namespace Go.Proofs.YtialgmhhkbdegaaGreat
open Go.RowKit
namespace V
def recOk (h t d : Int) : Bool := decide (0 ≤ h ∧ h ≤ t ∧ t ≤ 1048576 ∧ 1 ≤ d ∧ d ≤ 100)
def recF (h t d : Int) : Ch := (h * 1000000 / (t + d), ((h + d) * 1000000 + (t + d) - 1) / (t + d))
def cF (h t d : Int) : Ch := bif recOk h t d then recF h t d else (0, 0)
def recE (h t d : Int) : Int := bif recOk h t d then 0 else 3
abbrev s_Ch : PureT := spec [cI, cI, cI] [cC, cI] (fun _ => true) (fun x => (((cF x.1 x.2.1 x.2.2.1).1, (cF x.1 x.2.1 x.2.2.1).2, ()), recE x.1 x.2.1 x.2.2.1, ()))
abbrev TCh := Tree (TCTs [cC, cI])
def bad3 : TCh := .leaf ((0, 0, ()), 3, ())
def good3 (h t d : Int) : TCh := .leaf ((W64 (Int.tdiv (W64 (h * 1000000)) (W64 (t + d))), W64 (Int.tdiv (W64 (W64 (W64 (W64 (h + d) * 1000000) + W64 (t + d)) - 1)) (W64 (t + d))), ()), 0, ())
theorem good3_ok {h t d : Int} (hh : recOk h t d = true) : W64 (t + d) ≠ 0 ∧ (good3 h t d).sat (fun y => y = (((cF h t d).1, (cF h t d).2, ()), recE h t d, ())) := by
  have k := of_decide_eq_true hh
  unfold good3 cF recE
  rw [hh]
  rw [W64_id (n := t + d) (by omega) (by omega), W64_id (n := h + d) (by omega) (by omega), W64_id (n := h * 1000000) (by omega) (by omega), W64_id (n := (h + d) * 1000000) (by omega) (by omega),
    W64_id (n := (h + d) * 1000000 + (t + d)) (by omega) (by omega), W64_id (n := (h + d) * 1000000 + (t + d) - 1) (by omega) (by omega), Int.tdiv_eq_ediv_of_nonneg (by omega), Int.tdiv_eq_ediv_of_nonneg (by omega)]
  have e1 := Int.ediv_nonneg (a := h * 1000000) (b := t + d) (by omega) (by omega)
  have e2 := Int.ediv_le_self (t + d) (show 0 ≤ h * 1000000 by omega)
  have e3 := Int.ediv_nonneg (a := (h + d) * 1000000 + (t + d) - 1) (b := t + d) (by omega) (by omega)
  have e4 := Int.ediv_le_self (t + d) (show 0 ≤ (h + d) * 1000000 + (t + d) - 1 by omega)
  rw [W64_id (n := h * 1000000 / (t + d)) (by omega) (by omega), W64_id (n := ((h + d) * 1000000 + (t + d) - 1) / (t + d)) (by omega) (by omega)]
  exact ⟨by omega, rfl⟩
theorem bad3_ok {h t d : Int} (hh : recOk h t d = false) : bad3.sat (fun y => y = (((cF h t d).1, (cF h t d).2, ()), recE h t d, ())) := by
  unfold bad3 cF recE
  rw [hh]
  exact rfl
def T_tC (h t d : Int) : TCh := bif decide (min h t < 0) then bad3 else bif decide (h > t) then bad3 else bif decide (t > 1048576) then bad3 else bif decide (d < 1) then bad3 else bif decide (d > 100) then bad3 else
  bif W64 (t + d) != 0 then bif W64 (t + d) != 0 then good3 h t d else .fail else .fail
theorem T_tC_ok (h t d : Int) : (T_tC h t d).sat (fun y => y = (((cF h t d).1, (cF h t d).2, ()), recE h t d, ())) := by
  unfold T_tC
  cases hr : recOk h t d with
  | true =>
    have k := of_decide_eq_true hr
    obtain ⟨h1, h2⟩ := good3_ok hr
    rw [decide_eq_false (by omega), decide_eq_false (by omega), decide_eq_false (by omega), decide_eq_false (by omega), decide_eq_false (by omega), show (W64 (t + d) != 0) = true by simpa using h1]
    exact h2
  | false =>
    have k := of_decide_eq_false hr
    have hb := bad3_ok hr
    refine sat_cond (fun _ => hb) fun h1 => sat_cond (fun _ => hb) fun h2 => sat_cond (fun _ => hb) fun h3 => sat_cond (fun _ => hb) fun h4 => sat_cond (fun _ => hb) fun h5 => ?_
    have h1 := of_decide_eq_false h1
    have h2 := of_decide_eq_false h2
    have h3 := of_decide_eq_false h3
    have h4 := of_decide_eq_false h4
    have h5 := of_decide_eq_false h5
    omega
theorem q_tC : PureOk Tryz.prog 6 s_Ch := q_by (ctx_ok mixed puOk_nil (fns_cons is_tChance fns_nil)) 4 (fun x => T_tC x.1 x.2.1 x.2.2.1) (fun x => by kernel_rfl) fun _ _ _ => T_tC_ok _ _ _
def T_rC (h t d : Int) : TCh := bif decide (t < 0) then bad3 else bif decide (t > 1048576) then bad3 else bif decide (h < 0) then bad3 else bif decide (h > t) then bad3 else bif decide (d < 1) then bad3 else bif decide (d > 100) then bad3 else
  bif decide (W64 (t + d) ≠ 0) then bif decide (W64 (t + d) ≠ 0) then good3 h t d else .fail else .fail
theorem T_rC_ok (h t d : Int) : (T_rC h t d).sat (fun y => y = (((cF h t d).1, (cF h t d).2, ()), recE h t d, ())) := by
  unfold T_rC
  cases hr : recOk h t d with
  | true =>
    have k := of_decide_eq_true hr
    obtain ⟨h1, h2⟩ := good3_ok hr
    rw [decide_eq_false (by omega), decide_eq_false (by omega), decide_eq_false (by omega), decide_eq_false (by omega), decide_eq_false (by omega), decide_eq_false (by omega), decide_eq_true h1]
    exact h2
  | false =>
    have k := of_decide_eq_false hr
    have hb := bad3_ok hr
    refine sat_cond (fun _ => hb) fun h1 => sat_cond (fun _ => hb) fun h2 => sat_cond (fun _ => hb) fun h3 => sat_cond (fun _ => hb) fun h4 => sat_cond (fun _ => hb) fun h5 => sat_cond (fun _ => hb) fun h6 => ?_
    have h1 := of_decide_eq_false h1
    have h2 := of_decide_eq_false h2
    have h3 := of_decide_eq_false h3
    have h4 := of_decide_eq_false h4
    have h5 := of_decide_eq_false h5
    have h6 := of_decide_eq_false h6
    omega
/-! boards: cells -/
theorem is_cells : FnIs Tryz.prog (37, Tryz.f37) := ⟨Tryz.func37, by kernel_rfl, by kernel_rfl⟩
theorem is_cell : FnIs Tryz.prog (22, Tryz.f22) := ⟨Tryz.func22, by kernel_rfl, by kernel_rfl⟩
theorem is_away : FnIs Tryz.prog (21, Tryz.f21) := ⟨Tryz.func21, by kernel_rfl, by kernel_rfl⟩
theorem is_place : FnIs Tryz.prog (17, Tryz.f17) := ⟨Tryz.func17, by kernel_rfl, by kernel_rfl⟩
theorem is_after : FnIs Tryz.prog (20, Tryz.f20) := ⟨Tryz.func20, by kernel_rfl, by kernel_rfl⟩
abbrev cB : TC := .st [cI, cI, .sl cI, .st [cC, cC, cC], .st [cC, cC, cC]]
abbrev cP : TC := .st [cI, cI, cI, .st [cI, cI], .st [.b, .b]]
abbrev cSc : TC := .st [cI, cI, .sl cI, .sl .b]
abbrev cA : TC := .st [cI, cI, cI, cI]
abbrev s_cells : PureT := kspec [.r cB 0] [cI] (fun _ => true) (fun x => (W64 (x.1.1 * x.1.2.1), ()))
theorem q_cells : PureOk Tryz.prog 37 s_cells := kq_by (ctx_ok mixed puOk_nil (fns_cons is_cells fns_nil)) 4 (fun x => .leaf (W64 (x.1.1 * x.1.2.1), ())) (fun x => by kernel_rfl) fun _ _ _ => rfl
def plCe : List (Nat × PureT) := [(37, s_cells)]
theorem puCe : PuOk Tryz.prog plCe := puOk_cons is_cells.plain q_cells puOk_nil
abbrev pE : TypeId × IntKind × Int := (39, .i64, 3)
def cellsF (b : TCT cB) : Int := W64 (b.1 * b.2.1)
def cellOk (b : TCT cB) (c : Int) : Bool := decide (0 ≤ c ∧ c < cellsF b)
abbrev s_cell : PureT := kspecP [.r cB 0, .d cI] [cI] (fun x => cellOk x.1 x.2.1) (fun x => (x.2.1, ())) pE
def T_cell (b : TCT cB) (c : Int) : Tree (Option (Int × Unit)) := bif decide (c < 0) then .leaf none else bif decide (c ≥ W64 (b.1 * b.2.1)) then .leaf none else .leaf (some (c, ()))
theorem T_cell_ok (b : TCT cB) (c : Int) : (T_cell b c).sat (fun y => y = bif cellOk b c then some (c, ()) else none) := by
  unfold T_cell cellOk
  refine sat_cond (fun h => ?_) fun h => sat_cond (fun h2 => ?_) fun h2 => ?_
  · have := of_decide_eq_true h
    rw [decide_eq_false (show ¬ (0 ≤ c ∧ c < cellsF b) by omega)]; exact rfl
  · have h2 : c ≥ cellsF b := of_decide_eq_true h2
    rw [decide_eq_false (show ¬ (0 ≤ c ∧ c < cellsF b) by omega)]; exact rfl
  · have h1 := of_decide_eq_false h
    have h2 : ¬ c ≥ cellsF b := of_decide_eq_false h2
    rw [decide_eq_true (show 0 ≤ c ∧ c < cellsF b by omega)]; exact rfl
theorem q_cell : PureOk Tryz.prog 22 s_cell ∧ PanOk Tryz.prog 22 s_cell := kqP_by (ctx_ok mixed puCe (fns_cons is_cell fns_nil)) 4 rfl (fun x => T_cell x.1 x.2.1) (fun x => by kernel_rfl) fun x _ => T_cell_ok x.1 x.2.1
def awayF (b : TCT cB) (c d : Int) : Int := max (max (max (W64 (Int.tmod c b.1 - Int.tmod d b.1)) (W64 (0 - W64 (Int.tmod c b.1 - Int.tmod d b.1)))) (W64 (W64 (Int.tdiv c b.1) - W64 (Int.tdiv d b.1)))) (W64 (0 - W64 (W64 (Int.tdiv c b.1) - W64 (Int.tdiv d b.1))))
abbrev s_away : PureT := kspec [.r cB 0, .d cI, .d cI] [cI] (fun x => x.1.1 != 0) (fun x => (awayF x.1 x.2.1 x.2.2.1, ()))
def T_away (b : TCT cB) (c d : Int) : Tree (Int × Unit) := bif b.1 != 0 then bif b.1 != 0 then bif b.1 != 0 then bif b.1 != 0 then .leaf (awayF b c d, ()) else .fail else .fail else .fail else .fail
theorem T_away_ok (b : TCT cB) (c d : Int) (h : (b.1 != 0) = true) : (T_away b c d).sat (fun y => y = (awayF b c d, ())) := by
  unfold T_away
  rw [h]
  exact rfl
theorem q_away : PureOk Tryz.prog 21 s_away := kq_by (ctx_ok mixed puCe (fns_cons is_away fns_nil)) 4 (fun x => T_away x.1 x.2.1 x.2.2.1) (fun x => by kernel_rfl) fun x h _ => T_away_ok x.1 x.2.1 x.2.2.1 h
/-! acts -/
def runOk (b : TCT cB) (p : TCT cP) : Bool := decide (0 ≤ p.2.1 ∧ p.2.1 < (b.2.2.1.length : Int))
def actOk (b : TCT cB) (p : TCT cP) (a : TCT cA) : Bool := bif a.1 == 1 then runOk b p else decide (a.2.1 = 0) || decide (a.2.1 = 1)
def hoopAt (b : TCT cB) (p : TCT cP) : Int := getA (b.2.2.1 : List Int) (Int.toNat p.2.1) (dflt cI)
def afterF (b : TCT cB) (p : TCT cP) (a : TCT cA) : TCT cP :=
  (bif a.1 == 1 then hoopAt b p else a.2.2.2.1,
   bif a.1 == 1 then W64 (p.2.1 + 1) else p.2.1, p.2.2.1,
   (bif a.1 != 1 && decide (a.2.1 = 0) then a.2.2.1 else p.2.2.2.1.1, bif a.1 != 1 && decide (a.2.1 = 1) then a.2.2.1 else p.2.2.2.1.2.1, ()),
   (bif a.1 == 1 then false else bif decide (a.2.1 = 0) then true else p.2.2.2.2.1.1, bif a.1 == 1 then false else bif decide (a.2.1 = 1) then true else p.2.2.2.2.1.2.1, ()), ())
abbrev s_after : PureT := kspec [.r cB 0, .d cP, .d cA] [cP] (fun x => actOk x.1 x.2.1 x.2.2.1) (fun x => (afterF x.1 x.2.1 x.2.2.1, ()))
def T_after (b : TCT cB) (p : TCT cP) (a : TCT cA) : Tree (TCTs [cP]) := bif a.1 == 1 then
 bif decide (0 ≤ p.2.1 ∧ p.2.1 < ↑(List.length b.2.2.1)) then .leaf ((getA b.2.2.1 (Int.toNat p.2.1) (dflt cI), W64 (p.2.1 + 1), p.2.2.1, (p.2.2.2.1.1, p.2.2.2.1.2.1, ()), (false, false, ()), ()), ()) else .fail else
 bif decide (a.2.1 = ↑0) then
 bif decide (a.2.1 = ↑0) then .leaf ((a.2.2.2.1, p.2.1, p.2.2.1, (a.2.2.1, p.2.2.2.1.2.1, ()), (true, p.2.2.2.2.1.2.1, ()), ()), ()) else
 bif decide (a.2.1 = ↑(0 + 1)) then .leaf ((a.2.2.2.1, p.2.1, p.2.2.1, (a.2.2.1, p.2.2.2.1.2.1, ()), (p.2.2.2.2.1.1, true, ()), ()), ()) else .fail else
 bif decide (a.2.1 = ↑(0 + 1)) then
 bif decide (a.2.1 = ↑0) then .leaf ((a.2.2.2.1, p.2.1, p.2.2.1, (p.2.2.2.1.1, a.2.2.1, ()), (true, p.2.2.2.2.1.2.1, ()), ()), ()) else
 bif decide (a.2.1 = ↑(0 + 1)) then .leaf ((a.2.2.2.1, p.2.1, p.2.2.1, (p.2.2.2.1.1, a.2.2.1, ()), (p.2.2.2.2.1.1, true, ()), ()), ()) else .fail else .fail
theorem T_after_ok (b : TCT cB) (p : TCT cP) (a : TCT cA) (h : actOk b p a = true) : (T_after b p a).sat (fun y => y = (afterF b p a, ())) := by
  unfold actOk runOk at h
  unfold T_after afterF hoopAt
  rcases p with ⟨p1, p2, p3, ⟨p4, p5, ⟨⟩⟩, ⟨p6, p7, ⟨⟩⟩, ⟨⟩⟩
  rcases a with ⟨a1, a2, a3, a4, ⟨⟩⟩
  simp only at h ⊢
  cases ha : a1 == 1 with
  | true =>
    rw [ha, cond_true] at h
    rw [show (a1 != 1) = false by simpa using ha]
    rw [h]
    exact rfl
  | false =>
    rw [show (a1 != 1) = true by simpa using ha]
    rw [ha, cond_false, Bool.or_eq_true_iff] at h
    rcases h with h | h
    · have := of_decide_eq_true h
      subst this
      exact rfl
    · have := of_decide_eq_true h
      subst this
      exact rfl
theorem q_after : PureOk Tryz.prog 20 s_after := kq_by (ctx_ok mixed puCe (fns_cons is_after fns_nil)) 4 (fun x => T_after x.1 x.2.1 x.2.2.1) (fun x => by kernel_rfl) fun x h _ => T_after_ok x.1 x.2.1 x.2.2.1 h
def plPl : List (Nat × PureT) := [(22, s_cell)]
theorem puPl : PuOk Tryz.prog plPl := puOk_cons is_cell.plain q_cell.1 puOk_nil q_cell.2
def placeOk (b : TCT cB) (x : TCT cSc) : Bool := cellOk b x.1 && (decide (0 ≤ x.2.1 ∧ x.2.1 ≤ (b.2.2.1.length : Int)) && (decide ((x.2.2.1.length : Int) ≤ 2) && (decide ((x.2.2.2.1.length : Int) = x.2.2.1.length) && x.2.2.1.all (cellOk b))))
def placeF (x : TCT cSc) : TCT cP := (x.1, x.2.1, (x.2.2.1.length : Int), (getA (x.2.2.1 : List Int) 0 (0 : Int), getA (x.2.2.1 : List Int) 1 (0 : Int), ()), (getA (x.2.2.2.1 : List Bool) 0 false, getA (x.2.2.2.1 : List Bool) 1 false, ()), ())
abbrev s_place : PureT := kspecP [.r cB 0, .d cSc] [cP] (fun x => placeOk x.1 x.2.1) (fun x => (placeF x.2.1, ())) pE
def T_place (b : TCT cB) (x1 x2 : Int) (l : List Int) (d : List Bool) : Tree (Option (TCTs [cP])) :=
 bif cellOk b x1 then
 bif decide (x2 < 0) then .leaf none else
 bif decide (x2 > ↑(List.length b.2.2.1)) then .leaf none else
 bif decide ((↑(List.length l) : Int) > 2) then .leaf none else
 bif (↑(List.length d) : Int) != ↑(List.length l) then .leaf none else
 bif decide ((0 : Int) < ↑(List.length l)) then
 bif decide ((0 : Int) ≤ 0 ∧ (0 : Int) < ↑(List.length l)) then
 bif decide ((0 : Int) ≤ 0 ∧ (0 : Int) < ↑(List.length d)) then
 bif cellOk b (getA l (Int.toNat 0) (dflt cI)) then
 bif decide (W64 (0 + 1) < ↑(List.length l)) then
 bif decide (0 ≤ W64 (0 + 1) ∧ W64 (0 + 1) < ↑(List.length l)) then
 bif decide (0 ≤ W64 (0 + 1) ∧ W64 (0 + 1) < ↑(List.length d)) then
 bif cellOk b (getA l (Int.toNat (W64 (0 + 1))) (dflt cI)) then
 bif decide (W64 (W64 (0 + 1) + 1) < ↑(List.length l)) then
 bif decide (0 ≤ W64 (W64 (0 + 1) + 1) ∧ W64 (W64 (0 + 1) + 1) < ↑(List.length l)) then
 bif decide (0 ≤ W64 (W64 (0 + 1) + 1) ∧ W64 (W64 (0 + 1) + 1) < ↑(List.length d)) then .fail else .fail else .fail else .leaf (some ((x1, x2, ↑(List.length l), (getA l (Int.toNat 0) (dflt cI), getA l (Int.toNat (W64 (0 + 1))) (dflt cI), ()), (getA d (Int.toNat 0) (dflt TC.b), getA d (Int.toNat (W64 (0 + 1))) (dflt TC.b), ()), ()), ())) else .leaf none else .fail else .fail else .leaf (some ((x1, x2, ↑(List.length l), (getA l (Int.toNat 0) (dflt cI), (0 : Int), ()), (getA d (Int.toNat 0) (dflt TC.b), false, ()), ()), ())) else .leaf none else .fail else .fail else .leaf (some ((x1, x2, ↑(List.length l), ((0 : Int), (0 : Int), ()), (false, false, ()), ()), ())) else .leaf none
theorem T_place_ok (b : TCT cB) (x1 x2 : Int) (l : List Int) (d : List Bool) : (T_place b x1 x2 l d).sat (fun y => y = bif placeOk b (x1, x2, l, d, ()) then some (placeF (x1, x2, l, d, ()), ()) else none) := by
  have e1 : W64 (0 + 1) = 1 := by decide
  have e2 : W64 (1 + 1) = 2 := by decide
  unfold T_place placeOk placeF
  rw [e1, e2]
  simp only
  cases h1 : cellOk b x1 with
  | false => exact rfl
  | true =>
    rw [cond_true, Bool.true_and]
    by_cases h2 : x2 < 0
    · rw [decide_eq_true h2, decide_eq_false (show ¬ (0 ≤ x2 ∧ x2 ≤ (b.2.2.1.length : Int)) by omega)]; exact rfl
    rw [decide_eq_false h2, cond_false]
    by_cases h3 : x2 > (b.2.2.1.length : Int)
    · rw [decide_eq_true h3, decide_eq_false (show ¬ (0 ≤ x2 ∧ x2 ≤ (b.2.2.1.length : Int)) by omega)]; exact rfl
    rw [decide_eq_false h3, cond_false, decide_eq_true (show (0 ≤ x2 ∧ x2 ≤ (b.2.2.1.length : Int)) by omega), Bool.true_and]
    by_cases h4 : (l.length : Int) > 2
    · rw [decide_eq_true h4, decide_eq_false (show ¬ ((l.length : Int) ≤ 2) by omega)]; exact rfl
    rw [decide_eq_false h4, cond_false, decide_eq_true (show ((l.length : Int) ≤ 2) by omega), Bool.true_and]
    by_cases h5 : (d.length : Int) = l.length
    · rw [show ((d.length : Int) != l.length) = false by simpa using h5, cond_false, decide_eq_true h5, Bool.true_and]
      match l, d, h4, h5 with
      | [], [], _, _ => exact rfl
      | [u], [v], _, _ =>
        rw [show [u].all (cellOk b) = cellOk b u by simp]
        show Tree.sat _ (bif cellOk b u then _ else _)
        cases cellOk b u <;> exact rfl
      | [u, u'], [v, v'], _, _ =>
        rw [show [u, u'].all (cellOk b) = (cellOk b u && cellOk b u') by simp]
        show Tree.sat _ (bif cellOk b u then bif cellOk b u' then _ else _ else _)
        cases cellOk b u
        · exact rfl
        · cases cellOk b u' <;> exact rfl
      | u :: u' :: u'' :: l, d, h4, _ => simp only [List.length_cons] at h4; omega
    · rw [show ((d.length : Int) != l.length) = true by simpa using h5, decide_eq_false h5]; exact rfl
theorem q_place : PureOk Tryz.prog 17 s_place ∧ PanOk Tryz.prog 17 s_place := kqP_by (ctxU_ok (u := 3) mixed puPl (fns_cons is_place fns_nil)) 4 rfl (fun x => T_place x.1 x.2.1.1 x.2.1.2.1 x.2.1.2.2.1 x.2.1.2.2.2.1) (fun x => by kernel_rfl) fun x _ => T_place_ok x.1 x.2.1.1 x.2.1.2.1 x.2.1.2.2.1 x.2.1.2.2.2.1
end V
end Go.Proofs.YtialgmhhkbdegaaGreat
