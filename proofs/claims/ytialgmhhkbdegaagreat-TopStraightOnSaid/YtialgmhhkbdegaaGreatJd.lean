/- The law TacticsLeast: for all arguments it returns true. -/
import Derived.Test.YtialgmhhkbdegaaGreatJc
import Derived.Test.YtialgmhhkbdegaaGreatHe
namespace Go.Proofs.YtialgmhhkbdegaaGreat
open Go.RowKit
namespace V
abbrev kBd : List SK := [.d cI, .d cI, .d (.sl cI), .d cI, .d cI, .d cI, .d cI, .d cI, .d cI, .d cI, .d cI, .d cI, .d cI, .d cI, .d cI]
def brdB (x : SKTs kBd) : TCT cB := (x.1, x.2.1, x.2.2.1, ((x.2.2.2.1, x.2.2.2.2.1, ()), (x.2.2.2.2.2.1, x.2.2.2.2.2.2.1, ()), (x.2.2.2.2.2.2.2.1, x.2.2.2.2.2.2.2.2.1, ()), ()), ((x.2.2.2.2.2.2.2.2.2.1, x.2.2.2.2.2.2.2.2.2.2.1, ()), (x.2.2.2.2.2.2.2.2.2.2.2.1, x.2.2.2.2.2.2.2.2.2.2.2.2.1, ()), (x.2.2.2.2.2.2.2.2.2.2.2.2.2.1, x.2.2.2.2.2.2.2.2.2.2.2.2.2.2.1, ()), ()), ())
def bs_l1 : List BK := [(0, 33, kBd)]
def L_l1 : Lay := { keys := [1, 2, 5], ks := [.d cScs, .p 0 0 0 0, .d cI], bs := bs_l1, n := 106, nx := 1000, marks := [] }
def R_l1 : Lay := { keys := [1, 2], ks := [.d cScs, .p 0 0 0 0], bs := bs_l1, n := 106, nx := 1000, marks := [] }
def Q_l1 : Lay := { keys := [4], ks := [.d .b], bs := [], n := 106, nx := 1000, marks := [] }
def E_l1 : XE → Lay
  | .ret => Q_l1
  | _ => R_l1
def hd_l1 (x : SKTs kBd) (l : List (TCT cSc)) (i : Int) : L_l1.T := ((l, (), i, ()), (x, ()))
def ex_l1 (x : SKTs kBd) (l : List (TCT cSc)) : Left' E_l1 := ⟨.exit 0, ((l, (), ()), (x, ()))⟩
def rt_l1 : Left' E_l1 := ⟨.ret, ((true, ()), ())⟩
def st_l1 (x : SKTs kBd) (l : List (TCT cSc)) (i : Int) : Tree (L_l1.T ⊕ Left' E_l1) := bif decide (i < (l.length : Int)) then bif decide (0 ≤ i ∧ i < (l.length : Int)) then
  bif wideF (getA l i.toNat (dflt cSc)) then .leaf (.inr rt_l1) else .leaf (.inl (hd_l1 x l (W64 (i + 1)))) else .fail else .leaf (.inr (ex_l1 x l))
def okL (l : List (TCT cSc)) (i : Int) : Bool := decide (i = 0)
def fin_l1 (g : L_l1.T) : Tree (Left' E_l1) := .br (okL g.1.1 g.1.2.2.1) (.br (g.1.1.any wideF) (.leaf rt_l1) (.leaf (ex_l1 g.2.1 g.1.1))) .fail
/-! the second loop -/
def L_l2 : Lay := { keys := [1, 2, 6, 7, 9], ks := [.d cScs, .p 0 0 0 0, .d cI, .p 1000 0 0 0, .d cI], bs := [(0, 33, kBd), (1000, 30, [.d cI, .d cI])], n := 106, nx := 2000, marks := [] }
def R_l2 : Lay := { keys := [], ks := [], bs := [], n := 106, nx := 2000, marks := [] }
def Q_l2 : Lay := { keys := [4], ks := [.d .b], bs := [], n := 106, nx := 2000, marks := [] }
def E_l2 : XE → Lay
  | .ret => Q_l2
  | _ => R_l2
def hd_l2 (x : SKTs kBd) (l : List (TCT cSc)) (n : Int) (v : TCT cC) (i : Int) : L_l2.T := ((l, (), n, (), i, ()), (x, (v.1, v.2.1, ()), ()))
def ex_l2 : Left' E_l2 := ⟨.exit 2, ((), ())⟩
def rt_l2 : Left' E_l2 := ⟨.ret, ((false, ()), ())⟩
abbrev Tl2 := Tree (L_l2.T ⊕ Left' E_l2)
def tail_l2 (w v : TCT cC) (n i : Int) (k : Tl2) : Tl2 := bif i == n then bif !(w.1 == v.1 && (w.2.1 == v.2.1 && true)) then .leaf (.inr rt_l2) else k else k
def row_l2 (e : Int) (w v : TCT cC) (n i : Int) (k : Tl2) : Tl2 := bif e != 0 then .leaf (.inr rt_l2) else bif decide (w.2.1 < v.2.1) then .leaf (.inr rt_l2) else
  bif decide (i < n) then bif w.2.1 == v.2.1 then .leaf (.inr rt_l2) else tail_l2 w v n i k else tail_l2 w v n i k
def gd (b : TCT cB) (v : TCT cC) (n i : Int) (y : TCT cSc) : Bool := !(sceneE b y != 0) && (!decide ((valF b y).2.1 < v.2.1) && (!(decide (i < n) && (valF b y).2.1 == v.2.1) && !((i == n) && !((valF b y).1 == v.1 && ((valF b y).2.1 == v.2.1 && true)))))
theorem row_l2_ok {b : TCT cB} {v : TCT cC} {n i : Int} {y : TCT cSc} {k : Tl2} {Q : L_l2.T ⊕ Left' E_l2 → Prop} (h : bif gd b v n i y then k.sat Q else Q (.inr rt_l2)) : (row_l2 (sceneE b y) (valF b y) v n i k).sat Q := by
  unfold gd at h
  unfold row_l2 tail_l2
  generalize (sceneE b y != 0) = a1 at h ⊢
  generalize decide ((valF b y).2.1 < v.2.1) = a2 at h ⊢
  generalize decide (i < n) = a3 at h ⊢
  generalize ((valF b y).2.1 == v.2.1) = a4 at h ⊢
  generalize (i == n) = a5 at h ⊢
  generalize ((valF b y).1 == v.1) = a6 at h ⊢
  revert h
  cases a1 <;> cases a2 <;> cases a3 <;> cases a4 <;> cases a5 <;> cases a6 <;> exact fun h => h
def st_l2 (x : SKTs kBd) (l : List (TCT cSc)) (n : Int) (v : TCT cC) (i : Int) : Tl2 := bif decide (i < (l.length : Int)) then bif decide (0 ≤ i ∧ i < (l.length : Int)) then
  row_l2 (sceneE (brdB x) (getA l i.toNat (dflt cSc))) (valF (brdB x) (getA l i.toNat (dflt cSc))) v n i (.leaf (.inl (hd_l2 x l n v (W64 (i + 1))))) else .fail else .leaf (.inr ex_l2)
def vl2 (g : L_l2.T) : TCT cC := g.2.2.1
theorem run_all {α B : Type} (p : α → Nat → Bool) (r e : B) : ∀ (l : List α) (i : Nat), (∀ k (h : k < l.length), p l[k] (i + k) = true) → runL (fun x i (_ : Unit) => bif p x i then .inl () else .inr r) (fun _ => e) l i () = e
  | [], _, _ => rfl
  | x :: l, i, h => by
    have h0 := h 0 (by simp)
    simp only [List.getElem_cons_zero, Nat.add_zero] at h0
    simp only [runL, h0, cond_true]
    exact run_all p r e l (i + 1) fun k hk => by
      have := h (k + 1) (by simp; omega)
      rw [List.getElem_cons_succ] at this
      rw [show i + 1 + k = i + (k + 1) by omega]; exact this
def okAll (b : TCT cB) (l : List (TCT cSc)) (n : Int) (v : TCT cC) : Bool := (List.range l.length).all fun (k : Nat) => gd b v n (k : Int) (getA l k (dflt cSc))
def fin_l2' (b : TCT cB) (l : List (TCT cSc)) (n : Int) (v : TCT cC) (i : Int) : Tree (Left' E_l2) := .br (okL l i && okAll b l n (v.1, v.2.1, ())) (.leaf ex_l2) .fail
def fin_l2 (g : L_l2.T) : Tree (Left' E_l2) := fin_l2' (brdB g.2.1) g.1.1 g.1.2.2.1 (vl2 g) g.1.2.2.2.2.1
abbrev cs_tacticsLeast : List TC := [cB, cScs]
def T_ls (b : TCT cB) (l : List (TCT cSc)) : Tree Unit := bif greatF b then .leaf () else bif decide ((l.length : Int) > 10) then .leaf () else
  bif okL l 0 then bif l.any wideF then .leaf () else
  bif leaveE b l != 0 then bif leaveN b l == 0 then bif (leaveV b l).1 == 0 && ((leaveV b l).2.1 == 0 && true) then .leaf () else .fail else .fail else
  bif decide (leaveN b l < 0) then .fail else bif decide (leaveN b l ≥ (l.length : Int)) then .fail else
  bif okL l 0 && okAll b l (leaveN b l) ((leaveV b l).1, (leaveV b l).2.1, ()) then .leaf () else .fail else .fail
def TY_ls (y : TCTs cs_tacticsLeast) : Tree Unit := T_ls y.1 y.2.1
theorem leave0 {b : TCT cB} {l : List (TCT cSc)} (h : (leaveE b l == 0) = true) : bOk b = true ∧ l ≠ [] ∧ l.all (placeOk b) = true := by
  have h : leaveE b l = 0 := by simpa using h
  unfold leaveE at h
  cases hb : bOk b with
  | false => rw [hb] at h; cases h
  | true =>
    cases h0 : (l.length : Int) == 0 with
    | true => rw [hb, h0] at h; cases h
    | false =>
      have hne : l ≠ [] := fun e => by rw [e] at h0; cases h0
      cases h1 : decide ((l.length : Int) > 64) with
      | true => rw [hb, h0, h1] at h; cases h
      | false =>
        cases h2 : l.all (placeOk b) with
        | false => rw [hb, h0, h1, h2] at h; cases h
        | true => exact ⟨rfl, hne, rfl⟩
theorem gd_ok {b : TCT cB} {v w : TCT cC} {n i : Int} {y : TCT cSc} (h0 : sceneE b y = 0) (hv : valF b y = w) (h1 : ¬ w.2.1 < v.2.1) (h2 : ¬ (i < n ∧ w.2.1 = v.2.1)) (h3 : i = n → w.1 = v.1 ∧ w.2.1 = v.2.1) : gd b v n i y = true := by
  unfold gd
  rw [h0, hv, decide_eq_false h1]
  have e2 : (decide (i < n) && w.2.1 == v.2.1) = false := by
    cases hx : (decide (i < n) && w.2.1 == v.2.1) with
    | false => rfl
    | true => rw [Bool.and_eq_true] at hx; exact absurd ⟨of_decide_eq_true hx.1, eq_of_beq hx.2⟩ h2
  rw [e2]
  cases hi : i == n with
  | false => rfl
  | true =>
    obtain ⟨a, c⟩ := h3 (eq_of_beq hi)
    rw [a, c, beq_self_eq_true, beq_self_eq_true]
    rfl
theorem T_ls_ok (b : TCT cB) (l : List (TCT cSc)) : (T_ls b l).sat (fun _ => True) := by
  unfold T_ls
  refine sat_cond (fun _ => trivial) fun _ => sat_cond (fun _ => trivial) fun hn => ?_
  have hk : okL l 0 = true := rfl
  rw [hk, cond_true]
  refine sat_cond (fun _ => trivial) fun _ => ?_
  cases h0 : leaveE b l == 0 with
  | false =>
    have e : (leaveE b l != 0) = true := by unfold bne; rw [h0]; rfl
    rw [e, cond_true]
    unfold leaveN leaveV
    rw [h0]
    trivial
  | true =>
    have e : (leaveE b l != 0) = false := by unfold bne; rw [h0]; rfl
    obtain ⟨hb, hne, hall⟩ := leave0 h0
    rw [e, cond_false]
    have hB := okB_of hb
    have hall := List.all_eq_true.1 hall
    have hlen : (Vs b l).length = l.length := by unfold Vs; rw [List.length_map]
    have hv : Vs b l ≠ [] := fun e => hne (by unfold Vs at e; simpa using e)
    obtain ⟨f1, f2, f3, f4⟩ := at_facts hv (fun x hx => by
      unfold Vs at hx
      rw [List.mem_map] at hx
      obtain ⟨y, hy, rfl⟩ := hx
      have hP := place_okP (hall y hy)
      have hu := Val_upto hB hP
      have h1 := hP.h
      have h2 := hB.n
      obtain ⟨u1, u2, u3⟩ := hu
      unfold room at u3
      show 0 ≤ vHi (Val b (placeF y)) ∧ vHi (Val b (placeF y)) ≤ 100000000
      omega)
    have eN : leaveN b l = at_Lv (Vs b l) := by unfold leaveN; rw [h0]; rfl
    have eV : leaveV b l = getA (Vs b l) (at_Lv (Vs b l)).toNat (dflt cC) := by unfold leaveV; rw [h0]; rfl
    rw [eN, eV]
    rw [decide_eq_false (show ¬ at_Lv (Vs b l) < 0 by omega), decide_eq_false (show ¬ at_Lv (Vs b l) ≥ (l.length : Int) by omega), cond_false, cond_false]
    have hok : okAll b l (at_Lv (Vs b l)) ((getA (Vs b l) (at_Lv (Vs b l)).toNat (dflt cC)).1, (getA (Vs b l) (at_Lv (Vs b l)).toNat (dflt cC)).2.1, ()) = true := by
      refine List.all_eq_true.2 fun k hk => ?_
      rw [List.mem_range] at hk
      have hp := hall _ (List.getElem_mem hk)
      rw [getA_lt hk]
      have hs : sceneE b l[k] = 0 := by unfold sceneE; rw [hb, hp]; rfl
      have hvk : valF b l[k] = getA (Vs b l) k (dflt cC) := by
        rw [getA_lt (by omega)]
        unfold valF Vs
        rw [hb, hp, List.getElem_map]
        rfl
      have g3 := f3 k (by omega)
      have ek : hiAt (Vs b l) (k : Int) = (getA (Vs b l) k (dflt cC)).2.1 := by
        unfold hiAt
        rw [show (k : Int).toNat = k by omega]
      have en : hiAt (Vs b l) (at_Lv (Vs b l)) = (getA (Vs b l) (at_Lv (Vs b l)).toNat (dflt cC)).2.1 := rfl
      rw [ek, en] at g3
      refine gd_ok hs hvk (Int.not_lt.2 g3) (fun h => ?_) (fun h => ?_)
      · have := f4 k h.1
        rw [ek, en, h.2] at this
        exact absurd this (Int.lt_irrefl _)
      · have e : (at_Lv (Vs b l)).toNat = k := by omega
        rw [e]
        exact ⟨rfl, rfl⟩
    rw [hok]
    trivial
end V
end Go.Proofs.YtialgmhhkbdegaaGreat
