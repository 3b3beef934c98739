/- The law EventSheets. -/
import Derived.Test.YtgchccljmjmibaaEm
namespace Go.Proofs.Ytgchccljmjmibaa
open Go.RowKit
namespace V
namespace Ev
theorem is_lsh : FnIs Try.prog (9, Try.f9) := ⟨Try.func9, by kernel_rfl, by kernel_rfl⟩
/-! the law -/
noncomputable def plSh : List (Nat × PureT) := (31, s_Counts) :: (32, s_Counts) :: (33, s_Sides) :: (34, s_Sides) :: (35, s_Champ) :: (36, s_Champ) :: (15, s_fine) :: (37, s_pairs) :: []
theorem puSh : PuOk Try.prog plSh := puOk_cons is_eCounts.plain q_Counts (puOk_cons is_rCounts.plain q_rCounts (puOk_cons is_eSides.plain q_Sides (puOk_cons is_rSides.plain q_rSides (puOk_cons is_eChamp.plain q_Champ (puOk_cons is_rChamp.plain q_rChamp (puOk_cons is_w12.plain q_fine (puOk_cons is_pairs.plain q_pairs puOk_nil)))))))
abbrev cs_eventSheets : List TC := [.sl cI, .sl cSc, cI]
def eqS4 (a b : TCT cSc) : Bool := a.1 == b.1 && (a.2.1 == b.2.1 && (a.2.2.1 == b.2.2.1 && (a.2.2.2.1 == b.2.2.2.1 && true)))
def K_sh (a b : TCT cSc × Int) (x y : List (TCT cPq) × Int) (u v : Int × Int) : Tree Unit := bif !eqS4 a.1 b.1 then .fail else bif a.2 != b.2 then .fail else bif decide (x.1 = y.1) then bif x.2 == y.2 then bif u.1 == v.1 then bif u.2 == v.2 then .leaf () else .fail else .fail else .fail else .fail
def T_esh (s : List Int) (l : List (TCT cSc)) (n : Int) : Tree Unit :=
  bif decide ((s.length : Int) > 100) then .leaf () else bif decide ((l.length : Int) > 60) then (bif decide ((l.length : Int) ≤ 400) then .leaf () else bif decide ((l.length : Int) > 500) then .leaf () else K_sh (coV l n) (coV l n) (sidV s l) (sidV s l) (chaV s l) (chaV s l)) else bif decide ((l.length : Int) > 500) then .leaf () else K_sh (coV l n) (coV l n) (sidV s l) (sidV s l) (chaV s l) (chaV s l)
theorem K_sh_ok (a : TCT cSc × Int) (x : List (TCT cPq) × Int) (u : Int × Int) : (K_sh a a x x u u).sat (fun _ => True) := by
  unfold K_sh eqS4
  simp only [beq_self_eq_true, Bool.and_self, Bool.not_true, cond_false, bne_self_eq_false, decide_true, cond_true]
  trivial
theorem T_esh_ok (s : List Int) (l : List (TCT cSc)) (n : Int) : (T_esh s l n).sat (fun _ => True) := by
  have hk := K_sh_ok (coV l n) (sidV s l) (chaV s l)
  unfold T_esh
  refine sat_cond (fun _ => trivial) fun _ => sat_cond (fun _ => sat_cond (fun _ => trivial) fun _ => sat_cond (fun _ => trivial) fun _ => hk) fun _ => sat_cond (fun _ => trivial) fun _ => hk
end Ev
open Ev
noncomputable def X_eventSheets : Ctx := ctx Try.prog plSh [(9, Try.f9)]
theorem X_eventSheets_ok : CtxOk X_eventSheets := ctx_ok mixed puSh (fns_cons is_lsh fns_nil)
theorem T_esh_eq (y : TCTs cs_eventSheets) : evFn X_eventSheets 7 (.fn 9) (encAs cs_eventSheets y) noHeap 0 lawK = T_esh y.1 y.2.1 y.2.2.1 := by kernel_rfl
theorem eventSheets_sat : LawSat X_eventSheets 9 cs_eventSheets 7 := lawSat 7 (fun y => T_esh y.1 y.2.1 y.2.2.1) T_esh_eq fun y _ => T_esh_ok y.1 y.2.1 y.2.2.1
end V
end Go.Proofs.Ytgchccljmjmibaa
