/- The law TacticsChances: for all arguments it returns true. -/
import Derived.Test.YtdblbofagfhlbaaGf
namespace Go.Proofs.Ytdblbofagfhlbaa
open Go.RowKit
namespace V
theorem is_TacticsChances : FnIs Try.prog (6, Try.f6) := ⟨Try.func6, by kernel_rfl, by kernel_rfl⟩
def plHa : List (Nat × PureT) := [(12, s_Ch),(22, s_Ch),(23, s_All),(24, s_rAll),(25, s_Any),(26, s_rAny),(13, s_fine)]
theorem puHa : PuOk Try.prog plHa := puOk_cons is_tChance.plain q_tC (puOk_cons is_rChance.plain q_rC (puOk_cons is_tAll.plain q_All (puOk_cons is_rAll.plain q_rAll (puOk_cons is_tAny.plain q_Any (puOk_cons is_rAny.plain q_rAny (puOk_cons is_fine.plain q_fine puOk_nil))))))
noncomputable def X_tacticsChances : Ctx := ctx Try.prog plHa [(6, Try.f6)]
theorem X_tacticsChances_ok : CtxOk X_tacticsChances := ctx_ok mixed puHa (fns_cons is_TacticsChances fns_nil)
abbrev cs_tacticsChances : List TC := [cI, cI, cI, cCs]
def T_tch (n : Int) (c a y : Ch) (e k : Int) : Tree Unit := bif decide (n > 100) then .leaf () else
 bif c.1 == c.1 && (c.2 == c.2 && true) then
 bif e == e then
 bif a.1 == a.1 && (a.2 == a.2 && true) then
 bif k == k then
 bif y.1 == y.1 && (y.2 == y.2 && true) then
 bif k == k then .leaf () else .fail else .fail else .fail else .fail else .fail else .fail
theorem T_tch_ok (n : Int) (c a y : Ch) (e k : Int) : (T_tch n c a y e k).sat (fun _ => True) := by
  unfold T_tch
  simp only [beq_self_eq_true, Bool.and_self, cond_true]
  exact sat_cond (fun _ => trivial) (fun _ => trivial)
def TY_tch (x : TCTs cs_tacticsChances) : Tree Unit := T_tch (x.2.2.2.1.length : Int) (cF x.1 x.2.1 x.2.2.1) (aF x.2.2.2.1) (yF x.2.2.2.1) (recE x.1 x.2.1 x.2.2.1) (checkF x.2.2.2.1)
theorem TY_tch_eq (x : TCTs cs_tacticsChances) : evFn X_tacticsChances 8 (.fn 6) (encAs cs_tacticsChances x) noHeap 0 lawK = TY_tch x := by kernel_rfl
theorem tacticsChances_sat : LawSat X_tacticsChances 6 cs_tacticsChances 8 := lawSat 8 TY_tch TY_tch_eq (fun _ _ => T_tch_ok _ _ _ _ _ _)
end V
end Go.Proofs.Ytdblbofagfhlbaa
