/- The chapter's examples, walked as they stand. -/
import Derived.Test.YtdblbofagfhlbaaGe
namespace Go.Proofs.Ytdblbofagfhlbaa
open Go.RowKit
namespace V
theorem is_fine : FnIs Try.prog (13, Try.f13) := ⟨Try.func13, by kernel_rfl, by kernel_rfl⟩
theorem is_tValue : FnIs Try.prog (17, Try.f17) := ⟨Try.func17, by kernel_rfl, by kernel_rfl⟩
theorem is_Example : FnIs Try.prog (44, Try.f44) := ⟨Try.func44, by kernel_rfl, by kernel_rfl⟩
theorem is_same : FnIs Try.prog (45, Try.f45) := ⟨Try.func45, by kernel_rfl, by kernel_rfl⟩
theorem is_catch : FnIs Try.prog (47, Try.f47) := ⟨Try.func47, by kernel_rfl, by kernel_rfl⟩
theorem is_open : FnIs Try.prog (48, Try.f48) := ⟨Try.func48, by kernel_rfl, by kernel_rfl⟩
theorem is_value : FnIs Try.prog (49, Try.f49) := ⟨Try.func49, by kernel_rfl, by kernel_rfl⟩
theorem is_worth : FnIs Try.prog (65, Try.f65) := ⟨Try.func65, by kernel_rfl, by kernel_rfl⟩
theorem is_tBoard : FnIs Try.prog (36, Try.f36) := ⟨Try.func36, by kernel_rfl, by kernel_rfl⟩
theorem is_tBoard1 : FnIs Try.prog (76, Try.f76) := ⟨Try.func76, by kernel_rfl, by kernel_rfl⟩
theorem is_cfInt : FnIs Try.prog (77, Try.f77) := ⟨Try.func77, by kernel_rfl, by kernel_rfl⟩
theorem is_ixInt : FnIs Try.prog (92, Try.f92) := ⟨Try.func92, by kernel_rfl, by kernel_rfl⟩
theorem is_acts : FnIs Try.prog (82, Try.f82) := ⟨Try.func82, by kernel_rfl, by kernel_rfl⟩
theorem is_acts1 : FnIs Try.prog (95, Try.f95) := ⟨Try.func95, by kernel_rfl, by kernel_rfl⟩
theorem is_must : FnIs Try.prog (85, Try.f85) := ⟨Try.func85, by kernel_rfl, by kernel_rfl⟩
abbrev s_same : PureT := spec [cI] [cC] (fun _ => true) (fun x => ((x.1, x.1, ()), ()))
theorem q_same : PureOk Try.prog 45 s_same := q_leaf (ctx_ok mixed puOk_nil (fns_cons is_same fns_nil)) 2 (fun _ => by kernel_rfl)
def plSe : List (Nat × PureT) := [(58, s_times), (91, s_cells), (73, s_cell), (72, s_away), (70, s_after), (50, s_place), (12, s_Ch), (45, s_same)]
theorem puSe : PuOk Try.prog plSe := puOk_cons is_times.plain q_times (puOk_cons is_cells.plain q_cells (puOk_cons is_cell.plain q_cell.1 (puOk_cons is_away.plain q_away (puOk_cons is_after.plain q_after (puOk_cons is_place.plain q_place.1 (puOk_cons is_tChance.plain q_tC (puOk_cons is_same.plain q_same puOk_nil)) q_place.2))) q_cell.2))
noncomputable def fnSe : List (Nat × Func) := [(13, Try.f13), (17, Try.f17), (44, Try.f44), (47, Try.f47), (48, Try.f48), (49, Try.f49), (65, Try.f65), (36, Try.f36), (76, Try.f76), (77, Try.f77), (78, Try.f78), (79, Try.f79), (82, Try.f82), (95, Try.f95), (85, Try.f85), (92, Try.f92), (93, Try.f93)]
theorem fnSe_ok : ∀ p ∈ fnSe, FnIs Try.prog p := fns_cons is_fine (fns_cons is_tValue (fns_cons is_Example (fns_cons is_catch (fns_cons is_open (fns_cons is_value (fns_cons is_worth (fns_cons is_tBoard (fns_cons is_tBoard1 (fns_cons is_cfInt (fns_cons is_cfBad (fns_cons is_bad (fns_cons is_acts (fns_cons is_acts1 (fns_cons is_must (fns_cons is_ixInt (fns_cons is_ixBad fns_nil))))))))))))))))
abbrev Tri : Type := (Int × Int × Unit) × (Int × Int × Unit) × (Int × Int × Unit) × Unit
abbrev BSc : Type := (Int × Int × List Int × Tri × Tri × Unit) × (Int × Int × List Int × List Bool × Unit) × Unit
def exBS : BSc := ((2, 1, [1], ((900000, 900000, ()), (500000, 500000, ()), (0, 0, ()), ()), ((950000, 950000, ()), (800000, 800000, ()), (0, 0, ()), ()), ()), (0, 0, [0], [false], ()), ())
def intsB (b : Int × Int × List Int × Tri × Tri × Unit) : List Int := [b.1, b.2.1, b.2.2.2.1.1.1, b.2.2.2.1.1.2.1, b.2.2.2.1.2.1.1, b.2.2.2.1.2.1.2.1, b.2.2.2.1.2.2.1.1, b.2.2.2.1.2.2.1.2.1, b.2.2.2.2.1.1.1, b.2.2.2.2.1.1.2.1, b.2.2.2.2.1.2.1.1, b.2.2.2.2.1.2.1.2.1, b.2.2.2.2.1.2.2.1.1, b.2.2.2.2.1.2.2.1.2.1]
def isEx (x : BSc) : Bool := decide (intsB x.1 = [2, 1, 900000, 900000, 500000, 500000, 0, 0, 950000, 950000, 800000, 800000, 0, 0] ∧ x.1.2.2.1 = [1] ∧ x.2.1.1 = 0 ∧ x.2.1.2.1 = 0 ∧ x.2.1.2.2.1 = [0] ∧ x.2.1.2.2.2.1 = [false])
theorem isEx_eq {x : BSc} (h : isEx x = true) : x = exBS := by
  have h := of_decide_eq_true h
  obtain ⟨⟨a, b, l, ⟨⟨c1, c2, ⟨⟩⟩, ⟨c3, c4, ⟨⟩⟩, ⟨c5, c6, ⟨⟩⟩, ⟨⟩⟩, ⟨⟨d1, d2, ⟨⟩⟩, ⟨d3, d4, ⟨⟩⟩, ⟨d5, d6, ⟨⟩⟩, ⟨⟩⟩, ⟨⟩⟩, ⟨e, f, m, n, ⟨⟩⟩, ⟨⟩⟩ := x
  simp only [intsB, List.cons.injEq, and_true] at h
  obtain ⟨⟨rfl, rfl, rfl, rfl, rfl, rfl, rfl, rfl, rfl, rfl, rfl, rfl, rfl, rfl⟩, rfl, rfl, rfl, rfl, rfl⟩ := h
  rfl
noncomputable def T_exV (x : TCTs [cB, cSc]) : Tree (TCTs [cC, cI]) := evFn (ctx Try.prog plSe fnSe) 60 (.fn 17) (encAs [cB, cSc] x) noHeap 0 (outK Try.prog [cC, cI])
abbrev s_exV : PureT := spec [cB, cSc] [cC, cI] (fun x => isEx x) (fun _ => ((855000, 855000, ()), 0, ()))
theorem e_exV : T_exV exBS = .leaf ((855000, 855000, ()), 0, ()) := by kernel_rfl
theorem q_exV : PureOk Try.prog 17 s_exV := q_by (ctx_ok mixed puSe fnSe_ok) 60 T_exV (fun _ => rfl) fun x h _ => by
  have h : x = exBS := isEx_eq h
  subst h
  rw [e_exV]
  exact rfl
def plFi : List (Nat × PureT) := [(17, s_exV), (12, s_Ch), (45, s_same)]
theorem puFi : PuOk Try.prog plFi := puOk_cons is_tValue.plain q_exV (puOk_cons is_tChance.plain q_tC (puOk_cons is_same.plain q_same puOk_nil))
abbrev s_fine : PureT := spec [] [.b] (fun _ => true) (fun _ => (true, ()))
theorem q_fine : PureOk Try.prog 13 s_fine := q_leaf (ctx_ok mixed puFi (fns_cons is_fine (fns_cons is_Example fns_nil))) 6 (fun _ => by kernel_rfl)
end V
end Go.Proofs.Ytdblbofagfhlbaa
