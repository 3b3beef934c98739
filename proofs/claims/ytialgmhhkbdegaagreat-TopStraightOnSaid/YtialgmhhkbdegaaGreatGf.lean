/- The chapter's examples, walked as they stand. -/
import Derived.Test.YtialgmhhkbdegaaGreatGe
namespace Go.Proofs.YtialgmhhkbdegaaGreat
open Go.RowKit
namespace V
theorem is_tValue : FnIs Tryz.prog (7, Tryz.f7) := ⟨Tryz.func7, by kernel_rfl, by kernel_rfl⟩
theorem is_catch : FnIs Tryz.prog (14, Tryz.f14) := ⟨Tryz.func14, by kernel_rfl, by kernel_rfl⟩
theorem is_open : FnIs Tryz.prog (15, Tryz.f15) := ⟨Tryz.func15, by kernel_rfl, by kernel_rfl⟩
theorem is_value : FnIs Tryz.prog (16, Tryz.f16) := ⟨Tryz.func16, by kernel_rfl, by kernel_rfl⟩
theorem is_worth : FnIs Tryz.prog (30, Tryz.f30) := ⟨Tryz.func30, by kernel_rfl, by kernel_rfl⟩
theorem is_tBoard : FnIs Tryz.prog (28, Tryz.f28) := ⟨Tryz.func28, by kernel_rfl, by kernel_rfl⟩
theorem is_tBoard1 : FnIs Tryz.prog (43, Tryz.f43) := ⟨Tryz.func43, by kernel_rfl, by kernel_rfl⟩
theorem is_cfInt : FnIs Tryz.prog (44, Tryz.f44) := ⟨Tryz.func44, by kernel_rfl, by kernel_rfl⟩
theorem is_ixInt : FnIs Tryz.prog (62, Tryz.f62) := ⟨Tryz.func62, by kernel_rfl, by kernel_rfl⟩
theorem is_acts : FnIs Tryz.prog (29, Tryz.f29) := ⟨Tryz.func29, by kernel_rfl, by kernel_rfl⟩
theorem is_acts1 : FnIs Tryz.prog (45, Tryz.f45) := ⟨Tryz.func45, by kernel_rfl, by kernel_rfl⟩
theorem is_must : FnIs Tryz.prog (27, Tryz.f27) := ⟨Tryz.func27, by kernel_rfl, by kernel_rfl⟩
abbrev s_same : PureT := spec [cI] [cC] (fun _ => true) (fun x => ((x.1, x.1, ()), ()))
def plSe : List (Nat × PureT) := [(24, s_times), (37, s_cells), (22, s_cell), (21, s_away), (20, s_after), (17, s_place), (6, s_Ch)]
theorem puSe : PuOk Tryz.prog plSe := puOk_cons is_times.plain q_times (puOk_cons is_cells.plain q_cells (puOk_cons is_cell.plain q_cell.1 (puOk_cons is_away.plain q_away (puOk_cons is_after.plain q_after (puOk_cons is_place.plain q_place.1 (puOk_cons is_tChance.plain q_tC puOk_nil) q_place.2))) q_cell.2))
abbrev Tri : Type := (Int × Int × Unit) × (Int × Int × Unit) × (Int × Int × Unit) × Unit
abbrev BSc : Type := (Int × Int × List Int × Tri × Tri × Unit) × (Int × Int × List Int × List Bool × Unit) × Unit
def exBS : BSc := ((2, 1, [1], ((900000, 900000, ()), (500000, 500000, ()), (0, 0, ()), ()), ((950000, 950000, ()), (800000, 800000, ()), (0, 0, ()), ()), ()), (0, 0, [0], [false], ()), ())
def intsB (b : Int × Int × List Int × Tri × Tri × Unit) : List Int := [b.1, b.2.1, b.2.2.2.1.1.1, b.2.2.2.1.1.2.1, b.2.2.2.1.2.1.1, b.2.2.2.1.2.1.2.1, b.2.2.2.1.2.2.1.1, b.2.2.2.1.2.2.1.2.1, b.2.2.2.2.1.1.1, b.2.2.2.2.1.1.2.1, b.2.2.2.2.1.2.1.1, b.2.2.2.2.1.2.1.2.1, b.2.2.2.2.1.2.2.1.1, b.2.2.2.2.1.2.2.1.2.1]
def isEx (x : BSc) : Bool := decide (intsB x.1 = [2, 1, 900000, 900000, 500000, 500000, 0, 0, 950000, 950000, 800000, 800000, 0, 0] ∧ x.1.2.2.1 = [1] ∧ x.2.1.1 = 0 ∧ x.2.1.2.1 = 0 ∧ x.2.1.2.2.1 = [0] ∧ x.2.1.2.2.2.1 = [false])
theorem isEx_eq {x : BSc} (h : isEx x = true) : x = exBS := by
  have h := of_decide_eq_true h
  obtain ⟨⟨a, b, l, ⟨⟨c1, c2, ⟨⟩⟩, ⟨c3, c4, ⟨⟩⟩, ⟨c5, c6, ⟨⟩⟩, ⟨⟩⟩, ⟨⟨d1, d2, ⟨⟩⟩, ⟨d3, d4, ⟨⟩⟩, ⟨d5, d6, ⟨⟩⟩, ⟨⟩⟩, ⟨⟩⟩, ⟨e, f, m, n, ⟨⟩⟩, ⟨⟩⟩ := x
  simp only [intsB, List.cons.injEq, and_true] at h
  obtain ⟨⟨rfl, rfl, rfl, rfl, rfl, rfl, rfl, rfl, rfl, rfl, rfl, rfl, rfl, rfl⟩, rfl, rfl, rfl, rfl, rfl⟩ := h
  rfl
abbrev s_exV : PureT := spec [cB, cSc] [cC, cI] (fun x => isEx x) (fun _ => ((855000, 855000, ()), 0, ()))
def plFi : List (Nat × PureT) := [(7, s_exV), (6, s_Ch)]
abbrev s_fine : PureT := spec [] [.b] (fun _ => true) (fun _ => (true, ()))
end V
end Go.Proofs.YtialgmhhkbdegaaGreat
