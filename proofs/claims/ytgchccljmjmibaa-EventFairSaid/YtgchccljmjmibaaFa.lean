/- Chapter 11: the seed order: by closed walks. -/
import Derived.Test.YtgchccljmjmibaaEm
namespace Go.Proofs.Ytgchccljmjmibaa
open Go.RowKit
namespace V
namespace Ev
set_option maxRecDepth 100000
theorem is_eord : FnIs Try.prog (56, Try.f56) := ⟨Try.func56, by kernel_rfl, by kernel_rfl⟩
theorem is_rord : FnIs Try.prog (61, Try.f61) := ⟨Try.func61, by kernel_rfl, by kernel_rfl⟩
theorem is_eOrd : FnIs Try.prog (23, Try.f23) := ⟨Try.func23, by kernel_rfl, by kernel_rfl⟩
theorem is_rOrd : FnIs Try.prog (24, Try.f24) := ⟨Try.func24, by kernel_rfl, by kernel_rfl⟩
noncomputable def XOr : Ctx := ctxU 80 Try.prog [] allF
theorem XOr_ok : CtxOk XOr := ctxU_ok (u := 80) mixed puOk_nil allF_ok
/-- the seed order -/
def ordT : Nat → List Int
  | 1 => [0]
  | 2 => [0, 1]
  | 4 => [0, 3, 1, 2]
  | 8 => [0, 7, 3, 4, 1, 6, 2, 5]
  | 16 => [0, 15, 7, 8, 3, 12, 4, 11, 1, 14, 6, 9, 2, 13, 5, 10]
  | 32 => [0, 31, 15, 16, 7, 24, 8, 23, 3, 28, 12, 19, 4, 27, 11, 20, 1, 30, 14, 17, 6, 25, 9, 22, 2, 29, 13, 18, 5, 26, 10, 21]
  | 64 => [0, 63, 31, 32, 15, 48, 16, 47, 7, 56, 24, 39, 8, 55, 23, 40, 3, 60, 28, 35, 12, 51, 19, 44, 4, 59, 27, 36, 11, 52, 20, 43, 1, 62, 30, 33, 14, 49, 17, 46, 6, 57, 25, 38, 9, 54, 22, 41, 2, 61, 29, 34, 13, 50, 18, 45, 5, 58, 26, 37, 10, 53, 21, 42]
  | _ => []
theorem pow_cases {n : Int} (h : powB n = true) : n = 1 ∨ n = 2 ∨ n = 4 ∨ n = 8 ∨ n = 16 ∨ n = 32 ∨ n = 64 := by
  unfold powB at h
  simp only [Bool.or_eq_true, beq_iff_eq] at h
  exact h
theorem or_case {β : Type} {T : Int → Tree β} {F : Int → β} (h1 : T 1 = .leaf (F 1)) (h2 : T 2 = .leaf (F 2)) (h4 : T 4 = .leaf (F 4)) (h8 : T 8 = .leaf (F 8)) (h16 : T 16 = .leaf (F 16)) (h32 : T 32 = .leaf (F 32)) (h64 : T 64 = .leaf (F 64)) (n : Int) (h : powB n = true) : T n = .leaf (F n) := by
  rcases pow_cases h with rfl | rfl | rfl | rfl | rfl | rfl | rfl
  · exact h1
  · exact h2
  · exact h4
  · exact h8
  · exact h16
  · exact h32
  · exact h64
abbrev s_ord : PureT := spec [cI] [.sl cI] (fun x => powB x.1) (fun x => (ordT x.1.toNat, ()))
theorem oe_1 : evFn XOr 12 (.fn 56) (encAs [cI] ((1 : Int), ())) noHeap 0 (outK XOr.P [.sl cI]) = .leaf (ordT 1, ()) := by kernel_rfl
theorem oe_2 : evFn XOr 12 (.fn 56) (encAs [cI] ((2 : Int), ())) noHeap 0 (outK XOr.P [.sl cI]) = .leaf (ordT 2, ()) := by kernel_rfl
theorem oe_4 : evFn XOr 12 (.fn 56) (encAs [cI] ((4 : Int), ())) noHeap 0 (outK XOr.P [.sl cI]) = .leaf (ordT 4, ()) := by kernel_rfl
theorem oe_8 : evFn XOr 12 (.fn 56) (encAs [cI] ((8 : Int), ())) noHeap 0 (outK XOr.P [.sl cI]) = .leaf (ordT 8, ()) := by kernel_rfl
theorem oe_16 : evFn XOr 12 (.fn 56) (encAs [cI] ((16 : Int), ())) noHeap 0 (outK XOr.P [.sl cI]) = .leaf (ordT 16, ()) := by kernel_rfl
theorem oe_32 : evFn XOr 12 (.fn 56) (encAs [cI] ((32 : Int), ())) noHeap 0 (outK XOr.P [.sl cI]) = .leaf (ordT 32, ()) := by kernel_rfl
theorem oe_64 : evFn XOr 12 (.fn 56) (encAs [cI] ((64 : Int), ())) noHeap 0 (outK XOr.P [.sl cI]) = .leaf (ordT 64, ()) := by kernel_rfl
theorem q_eord : PureOk Try.prog 56 s_ord := q_by2 XOr_ok 12 (fun x => evFn XOr 12 (.fn 56) (encAs [cI] x) noHeap 0 (outK XOr.P [.sl cI])) (fun x => .leaf (ordT x.1.toNat, ())) (fun _ => rfl) (fun x h => or_case (T := fun n => evFn XOr 12 (.fn 56) (encAs [cI] (n, ())) noHeap 0 (outK XOr.P [.sl cI])) (F := fun n => (ordT n.toNat, ())) oe_1 oe_2 oe_4 oe_8 oe_16 oe_32 oe_64 x.1 h) (fun _ _ _ => rfl)
theorem or_1 : evFn XOr 12 (.fn 61) (encAs [cI] ((1 : Int), ())) noHeap 0 (outK XOr.P [.sl cI]) = .leaf (ordT 1, ()) := by kernel_rfl
theorem or_2 : evFn XOr 12 (.fn 61) (encAs [cI] ((2 : Int), ())) noHeap 0 (outK XOr.P [.sl cI]) = .leaf (ordT 2, ()) := by kernel_rfl
theorem or_4 : evFn XOr 12 (.fn 61) (encAs [cI] ((4 : Int), ())) noHeap 0 (outK XOr.P [.sl cI]) = .leaf (ordT 4, ()) := by kernel_rfl
theorem or_8 : evFn XOr 12 (.fn 61) (encAs [cI] ((8 : Int), ())) noHeap 0 (outK XOr.P [.sl cI]) = .leaf (ordT 8, ()) := by kernel_rfl
theorem or_16 : evFn XOr 12 (.fn 61) (encAs [cI] ((16 : Int), ())) noHeap 0 (outK XOr.P [.sl cI]) = .leaf (ordT 16, ()) := by kernel_rfl
theorem or_32 : evFn XOr 12 (.fn 61) (encAs [cI] ((32 : Int), ())) noHeap 0 (outK XOr.P [.sl cI]) = .leaf (ordT 32, ()) := by kernel_rfl
theorem or_64 : evFn XOr 12 (.fn 61) (encAs [cI] ((64 : Int), ())) noHeap 0 (outK XOr.P [.sl cI]) = .leaf (ordT 64, ()) := by kernel_rfl
theorem q_rord : PureOk Try.prog 61 s_ord := q_by2 XOr_ok 12 (fun x => evFn XOr 12 (.fn 61) (encAs [cI] x) noHeap 0 (outK XOr.P [.sl cI])) (fun x => .leaf (ordT x.1.toNat, ())) (fun _ => rfl) (fun x h => or_case (T := fun n => evFn XOr 12 (.fn 61) (encAs [cI] (n, ())) noHeap 0 (outK XOr.P [.sl cI])) (F := fun n => (ordT n.toNat, ())) or_1 or_2 or_4 or_8 or_16 or_32 or_64 x.1 h) (fun _ _ _ => rfl)
/-! order as a list of the caller's own -/
def probeZ (_ : Heap) (_ : List AV) : Option (List Nat) := some []
def FL_or : FLay := { ks := [.d cI], bs := [], nx := 0 }
def FE_or : Bool → FLay := fun _ => { ks := [.o 3 cI], bs := [], nx := 0 }
def fin_or (g : FL_or.T) : Tree (LeftF FE_or) := .br (powB g.1.1) (.leaf ⟨true, ((ordT (g.1.1 : Int).toNat, ()), ())⟩) .fail
noncomputable def W_or (n : Int) : Tree (LeftF FE_or) := evBody XOr (evFn XOr 12) 56 (ofKs FL_or.ks (n, ()) FL_or.nx) (FL_or.lay.hp ((n, ()), ())) (FL_or.lay.of ((n, ()), ())).nx (foutK FE_or)
theorem w_1 : W_or 1 = .leaf ⟨true, ((ordT 1, ()), ())⟩ := by kernel_rfl
theorem w_2 : W_or 2 = .leaf ⟨true, ((ordT 2, ()), ())⟩ := by kernel_rfl
theorem w_4 : W_or 4 = .leaf ⟨true, ((ordT 4, ()), ())⟩ := by kernel_rfl
theorem w_8 : W_or 8 = .leaf ⟨true, ((ordT 8, ()), ())⟩ := by kernel_rfl
theorem w_16 : W_or 16 = .leaf ⟨true, ((ordT 16, ()), ())⟩ := by kernel_rfl
theorem w_32 : W_or 32 = .leaf ⟨true, ((ordT 32, ()), ())⟩ := by kernel_rfl
theorem w_64 : W_or 64 = .leaf ⟨true, ((ordT 64, ()), ())⟩ := by kernel_rfl
theorem w_all (n : Int) (h : powB n = true) : W_or n = .leaf ⟨true, ((ordT n.toNat, ()), ())⟩ := or_case (T := W_or) (F := fun n => ⟨true, ((ordT n.toNat, ()), ())⟩) w_1 w_2 w_4 w_8 w_16 w_32 w_64 n h
theorem sp_or : SpecOk Try.prog 56 (fspec probeZ FL_or FE_or fin_or) := by
  refine fspec_ok (X := XOr) (L := FL_or) (E := FE_or) (fin := fin_or) XOr_ok 12 (fun _ => Nat.le_refl _) fun g R hw hf => ?_
  obtain ⟨⟨n, ⟨⟩⟩, ⟨⟩⟩ := g
  have hs : (fin_or ((n, ()), ())).sat R := hf
  obtain ⟨h1, h2⟩ := hs
  cases hb : powB n with
  | false => exact (h2 hb).elim
  | true =>
    show (W_or n).sat _
    rw [w_all n hb]
    exact fun _ => h1 hb
end Ev
end V
end Go.Proofs.Ytgchccljmjmibaa
