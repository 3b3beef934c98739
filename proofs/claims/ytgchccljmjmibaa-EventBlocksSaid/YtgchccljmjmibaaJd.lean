/- Chapter 11: Rounds of both: contracts for any number. -/
import Derived.Test.YtgchccljmjmibaaBg
import Derived.Test.YtgchccljmjmibaaJa
namespace Go.Proofs.Ytgchccljmjmibaa
open Go.RowKit
namespace V
/-- two contracts of one function, side by side -/
theorem pure_or {P : Program} {f : FuncId} {cs rs : List TC} {ok1 ok2 : TCTs cs → Bool} {F1 F2 F : TCTs cs → TCTs rs} (h1 : PureOk P f (spec cs rs ok1 F1)) (h2 : PureOk P f (spec cs rs ok2 F2))
    (e1 : ∀ x, ok1 x = true → F1 x = F x) (e2 : ∀ x, ok2 x = true → F2 x = F x) (hor : ∀ x, ok1 x = true ∨ ok2 x = true) : PureOk P f (spec cs rs (fun _ => true) F) := by
  intro σ w xs us x hb hm hu hg
  simp only [spec] at hg
  cases hd : decAs cs xs with
  | none => rw [hd] at hg; cases hg
  | some y =>
    rw [hd] at hg
    simp only [Option.some.injEq, Prod.mk.injEq, true_and] at hg
    subst hg
    rcases hor y with h | h
    · exact h1 σ w xs us _ hb hm hu (by simp only [spec, hd]; rw [h, e1 y h])
    · exact h2 σ w xs us _ hb hm hu (by simp only [spec, hd]; rw [h, e2 y h])
namespace Ev
def inB2 (n : Int) : Bool := decide (2 ≤ n ∧ n ≤ 16)
/-- the rounds, and the error -/
def rdV (n : Int) : List (List (Int × Int × Unit)) × Int := bif inB2 n then (rnds n.toNat, 0) else ([], 3)
abbrev s_RoundsT : PureT := spec [cI] [.sl (.sl cPr), cI] (fun _ => true) (fun x => ((rdV x.1).1, (rdV x.1).2, ()))
abbrev TRd := Tree (TCTs [.sl (.sl cPr), cI])
theorem is_eRounds : FnIs Try.prog (18, Try.f18) := ⟨Try.func18, by kernel_rfl, by kernel_rfl⟩
theorem is_eCkB : FnIs Try.prog (52, Try.f52) := ⟨Try.func52, by kernel_rfl, by kernel_rfl⟩
noncomputable def X_er0 : Ctx := ctx Try.prog [] [(18, Try.f18), (52, Try.f52)]
theorem X_er0_ok : CtxOk X_er0 := ctx_ok mixed puOk_nil (fns_cons is_eRounds (fns_cons is_eCkB fns_nil))
noncomputable def X_er : Ctx := { X_er0 with u := 0 }
theorem X_er_ok : CtxOk X_er := ⟨X_er0_ok.mix, X_er0_ok.pures, X_er0_ok.fns, X_er0_ok.specs⟩
def T_er (n : Int) : TRd := bif decide (n < 2) then .leaf ([], 3, ()) else bif decide (n > 16) then .leaf ([], 3, ()) else bif decide (0 ≤ W64 (W64 (n + Int.tmod n 2) - 1) ∧ W64 (W64 (n + Int.tmod n 2) - 1) ≤ W64 (W64 (n + Int.tmod n 2) - 1) ∧ W64 (W64 (n + Int.tmod n 2) - 1) ≤ 65536 ∧ ((24 : Nat) : Int) * W64 (W64 (n + Int.tmod n 2) - 1) ≤ 281474976710656) then .fail else .fail
theorem T_er_ok (n : Int) (h : inB2 n = false) : (T_er n).sat (fun y => y = ((rdV n).1, (rdV n).2, ())) := by
  have hv : rdV n = ([], 3) := by unfold rdV; rw [h]; rfl
  rw [hv]
  have h := of_decide_eq_false h
  unfold T_er
  by_cases h1 : n < 2
  · rw [decide_eq_true h1]; exact rfl
  · rw [decide_eq_false h1, decide_eq_true (show n > 16 by omega)]; exact rfl
theorem q_eRounds : PureOk Try.prog 18 s_RoundsT := pure_or (cs := [cI]) (rs := [.sl (.sl cPr), cI]) (ok1 := fun x => inB2 x.1) (F1 := fun x => (rnds x.1.toNat, (0 : Int), ())) (ok2 := fun x => !inB2 x.1) (F2 := fun x => ((rdV x.1).1, (rdV x.1).2, ())) (F := fun x => ((rdV x.1).1, (rdV x.1).2, ())) q_Rounds
  (q_by X_er_ok 6 (fun x => T_er x.1) (fun x => by kernel_rfl) fun x h _ => T_er_ok x.1 (by simpa using h))
  (fun x h => by
    have h : inB2 x.1 = true := h
    unfold rdV
    rw [h]
    rfl) (fun _ _ => rfl) (fun x => by
    cases inB2 x.1
    · exact .inr rfl
    · exact .inl rfl)
def U_rR (y : Option (Left' E_j0)) : TRd := bif isE (.exit 0) y then .leaf ((valE (E := E_j0) (.exit 0) y).1.1, 0, ()) else .fail
def T_rR (n : Int) : TRd := bif decide (n ≥ 2) then (bif !decide (n ≤ 16) then .leaf ([], 3, ()) else U_rR (iter st_j0 20 (hd_j0 n (W64 (n + Int.tmod n 2)) [] 0))) else .leaf ([], 3, ())
def outL : TRd → Option (List (List (Int × Int × Unit)))
  | .leaf x => some x.1
  | _ => none
def okU (t : TRd) : Bool := match t with
  | .leaf x => x.2.1 == 0
  | _ => false
abbrev LLP := List (List (Int × Int × Unit))
theorem rr_all : ∀ n : Nat, n ≤ 16 → 2 ≤ n → decide ((outL (U_rR (iter st_j0 20 (hd_j0 n (W64 (n + Int.tmod n 2)) [] 0))) : Option LLP) = some (rnds n)) = true := by decide +kernel
theorem outL_sat {y : Option (Left' E_j0)} {l : List (List (Int × Int × Unit))} (h : outL (U_rR y) = some l) : (U_rR y).sat (fun z => z = (l, 0, ())) := by
  unfold U_rR at h ⊢
  cases he : isE (.exit 0) y with
  | true => rw [he] at h; cases h; exact rfl
  | false => rw [he] at h; cases h
theorem T_rR_ok (n : Int) : (T_rR n).sat (fun y => y = ((rdV n).1, (rdV n).2, ())) := by
  unfold T_rR rdV inB2
  by_cases h1 : n ≥ 2
  · rw [decide_eq_true h1, cond_true]
    by_cases h2 : n ≤ 16
    · rw [decide_eq_true h2, decide_eq_true (show 2 ≤ n ∧ n ≤ 16 from ⟨h1, h2⟩)]
      have := rr_all n.toNat (by omega) (by omega)
      rw [show ((n.toNat : Nat) : Int) = n by omega] at this
      exact outL_sat (of_decide_eq_true this)
    · rw [decide_eq_false h2, decide_eq_false (show ¬ (2 ≤ n ∧ n ≤ 16) by omega)]
      exact rfl
  · rw [decide_eq_false h1, decide_eq_false (show ¬ (2 ≤ n ∧ n ≤ 16) by omega)]
    exact rfl
theorem q_rRounds : PureOk Try.prog nRr s_RoundsT := q_by X_rR_ok 6 (fun x => T_rR x.1) (fun x => by kernel_rfl) fun x _ _ => T_rR_ok x.1
end Ev
end V
end Go.Proofs.Ytgchccljmjmibaa
