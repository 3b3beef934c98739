/- The exported functions of tactics. -/
import Derived.Test.YtialgmhhkbdegaaGreatGl
namespace Go.Proofs.YtialgmhhkbdegaaGreat
open Go.RowKit
namespace V
def plEx : List (Nat × PureT) := (28, s_Board) :: plSe
theorem puEx : PuOk Tryz.prog plEx := puOk_cons is_tBoard.plain q_Board puSe
def VX : VM := valN 21
def spEx : List (Nat × (Heap → Nat → List AV → Tree (Out × Heap × Nat))) := [(16, sp_val VX), (30, sp_wo VX)]
theorem spEx_ok : ∀ p ∈ spEx, Plain Tryz.prog p.1 ∧ SpecOk Tryz.prog p.1 p.2 := fun p hp => by
  unfold spEx at hp
  rw [List.mem_cons, List.mem_singleton] at hp
  rcases hp with rfl | rfl
  · exact ⟨is_value.plain, sp_valN 21⟩
  · exact ⟨is_worth.plain, sp_woN 21⟩
noncomputable def X_Val : Ctx := ctxS Tryz.prog plEx [(7, Tryz.f7), (15, Tryz.f15), (27, Tryz.f27), (14, Tryz.f14)] [] spEx
theorem X_Val_ok : CtxOk X_Val := ctxS_ok mixed puEx (fns_cons is_tValue (fns_cons is_open (fns_cons is_must (fns_cons is_catch fns_nil)))) no_loops spEx_ok
/-! Value -/
def sceneE (b : TCT cB) (x : TCT cSc) : Int := bif bOk b then bif placeOk b x then 0 else 3 else 2
def valF (b : TCT cB) (x : TCT cSc) : TCT cC := bif bOk b && placeOk b x then Val b (placeF x) else zC
abbrev s_Val : PureT := spec [cB, cSc] [cC, cI] (fun _ => true) (fun x => (((valF x.1 x.2.1).1, (valF x.1 x.2.1).2.1, ()), sceneE x.1 x.2.1, ()))
def no0 : Memo := fun _ => none
def T_Val (b : TCT cB) (x : TCT cSc) : Tree (TCTs [cC, cI]) := bif boardF b != 0 then .leaf ((0, 0, ()), boardF b, ()) else
  bif placeOk b x then bif (VX b (placeF x) no0).isSome then .leaf (((gv (VX b (placeF x) no0)).1, (gv (VX b (placeF x) no0)).2.1, ()), 0, ()) else .fail else .leaf ((0, 0, ()), 3, ())
theorem T_Val_eq (x : TCTs [cB, cSc]) : evFn X_Val 8 (.fn 7) (encAs [cB, cSc] x) noHeap 0 (outK Tryz.prog [cC, cI]) = T_Val x.1 x.2.1 := by kernel_rfl
theorem place_okP {b : TCT cB} {x : TCT cSc} (h : placeOk b x = true) : OkP b (placeF x) := by
  unfold placeOk at h
  simp only [Bool.and_eq_true_iff] at h
  obtain ⟨h1, h2, h3, h4, h5⟩ := h
  have h2 : 0 ≤ pH (placeF x) ∧ pH (placeF x) ≤ bN b := of_decide_eq_true h2
  have hl : pN (placeF x) = (((x.2.2.1 : List Int).length : Nat) : Int) := rfl
  have h3 : (((x.2.2.1 : List Int).length : Nat) : Int) ≤ 2 := of_decide_eq_true h3
  have get : ∀ (l : List Int), l.all (cellOk b) = true → ∀ i, i < l.length → 0 ≤ getA l i (0 : Int) ∧ getA l i (0 : Int) < cellsF b := fun l hl i hi => by
    rw [getA_lt hi]
    exact of_decide_eq_true (List.all_eq_true.1 hl _ (List.getElem_mem hi))
  exact ⟨of_decide_eq_true h1, h2, by omega, fun h => get _ h5 0 (by omega), fun h => get _ h5 1 (by omega)⟩
theorem right_no0 {b : TCT cB} : Right b no0 := fun _ _ h => by cases h
theorem VX_ok {b : TCT cB} (hb : OkB b) {p : TCT cP} (hp : OkP b p) {m : Memo} (hm : Right b m) : ∃ m', VX b p m = some (Val b p, m') ∧ Right b m' := valN_ok hb 21 p m hp (by have := mu_le hb hp; omega) hm
theorem board0 {b : TCT cB} : (boardF b != 0) = !bOk b := by unfold boardF; cases bOk b <;> rfl
theorem T_Val_ok (b : TCT cB) (x : TCT cSc) : (T_Val b x).sat (fun y => y = (((valF b x).1, (valF b x).2.1, ()), sceneE b x, ())) := by
  unfold T_Val valF sceneE
  rw [board0]
  cases hb : bOk b with
  | false =>
    have : boardF b = 2 := by unfold boardF; rw [hb]; rfl
    rw [this]; exact rfl
  | true =>
    cases hp : placeOk b x with
    | false => exact rfl
    | true =>
      obtain ⟨m', e, _⟩ := VX_ok (okB_of hb) (place_okP hp) (right_no0 (b := b))
      rw [e]
      exact rfl
theorem q_Val : PureOk Tryz.prog 7 s_Val := q_by X_Val_ok 8 (fun x => T_Val x.1 x.2.1) T_Val_eq fun x _ _ => T_Val_ok x.1 x.2.1
/-! the reference's checks -/
abbrev s_rcells : PureT := spec [cB] [cI] (fun _ => true) (fun x => (cellsF x.1, ()))
abbrev s_rcell : PureT := spec [cB, cI] [.b] (fun _ => true) (fun x => (cellOk x.1 x.2.1, ()))
def T_rcell (b : TCT cB) (c : Int) : Tree (Bool × Unit) := bif decide (c ≥ 0) then .leaf (decide (c < cellsF b), ()) else .leaf (false, ())
theorem T_rcell_ok (b : TCT cB) (c : Int) : (T_rcell b c).sat (fun y => y = (cellOk b c, ())) := by
  unfold T_rcell cellOk
  refine sat_cond (fun h => ?_) fun h => ?_
  · have h := of_decide_eq_true h
    refine sat_leaf ?_
    congr 1; apply decide_eq_decide.2; omega
  · have h := of_decide_eq_false h
    rw [decide_eq_false (show ¬ (0 ≤ c ∧ c < cellsF b) by omega)]; exact rfl
end V
end Go.Proofs.YtialgmhhkbdegaaGreat
