import Derived.Test.YtkiaifmbbnnliaaGreatVC
import Derived.Test.YtkiaifmbbnnliaaGreatTV
namespace Go.Proofs.YtkiaifmbbnnliaaGreat
open Go.RowKit
namespace V
abbrev cBall : TC := .st [cI, cI]
abbrev cMot : TC := .st [cPt, cPt, cPt]
abbrev cBnc : TC := .st [cI, cI]
theorem is_dot : FnIs Tryz.prog (186, Tryz.f186) := ⟨Tryz.func186, by kernel_rfl, by kernel_rfl⟩
theorem is_way : FnIs Tryz.prog (190, Tryz.f190) := ⟨Tryz.func190, by kernel_rfl, by kernel_rfl⟩
theorem is_coutside : FnIs Tryz.prog (142, Tryz.f142) := ⟨Tryz.func142, by kernel_rfl, by kernel_rfl⟩
theorem is_within : FnIs Tryz.prog (121, Tryz.f121) := ⟨Tryz.func121, by kernel_rfl, by kernel_rfl⟩
theorem is_strong : FnIs Tryz.prog (176, Tryz.f176) := ⟨Tryz.func176, by kernel_rfl, by kernel_rfl⟩
theorem is_Strong : FnIs Tryz.prog (65, Tryz.f65) := ⟨Tryz.func65, by kernel_rfl, by kernel_rfl⟩
theorem is_close : FnIs Tryz.prog (189, Tryz.f189) := ⟨Tryz.func189, by kernel_rfl, by kernel_rfl⟩
abbrev s_dot : PureT := spec [cPt, cPt] [cI] (fun _ => true) (fun x => (W64 (W64 (x.1.1 * x.2.1.1) + W64 (x.1.2.1 * x.2.1.2.1)), ()))
theorem q_dot : PureOk Tryz.prog 186 s_dot := q_leaf (ctx_ok mixed puOk_nil (fns_cons is_dot fns_nil)) 2 (fun x => by kernel_rfl)
abbrev s_way : PureT := spec [cPt, cPt] [cPt] (fun _ => true) (fun x => ((W64 (x.2.1.1 - x.1.1), W64 (x.2.1.2.1 - x.1.2.1), ()), ()))
theorem q_way : PureOk Tryz.prog 190 s_way := q_leaf (ctx_ok mixed puOk_nil (fns_cons is_way fns_nil)) 2 (fun x => by kernel_rfl)
abbrev s_out : PureT := spec [cI, cI, cI] [.b] (fun _ => true) (fun x => (outB x.1 x.2.1 x.2.2.1, ()))
theorem q_coutside : PureOk Tryz.prog 142 s_out := pureOk_of_ev (ctx_ok mixed puOk_nil (fns_cons is_coutside fns_nil)) 2 fun x _ _ => by
  obtain ⟨a, b, c, _⟩ := x
  refine sat_eq (t := bif decide (a < b) then .leaf (true, ()) else .leaf (decide (a > c), ())) (by kernel_rfl) ?_
  refine sat_cond (fun h => ?_) (fun h => ?_) <;> refine sat_leaf ?_ <;> (show _ = (outB a b c, ()); unfold outB; rw [h]; rfl)
abbrev s_within : PureT := spec [cI, cI, cI] [.b] (fun _ => true) (fun x => (!outB x.1 x.2.1 x.2.2.1, ()))
def T_within (a b c : Int) : Tree (Bool × Unit) := bif decide (a ≥ b) then .leaf (decide (a ≤ c), ()) else .leaf (false, ())
theorem T_within_ok (a b c : Int) : (T_within a b c).sat (fun y => y = (!outB a b c, ())) := by
  unfold T_within outB
  refine sat_cond (fun h => sat_leaf ?_) (fun h => sat_leaf ?_)
  · have h' := of_decide_eq_true h
    by_cases k : c < a
    · rw [decide_eq_true k, decide_eq_false (show ¬ a ≤ c by omega)]; simp
    · rw [decide_eq_false k, decide_eq_true (show a ≤ c by omega), decide_eq_false (show ¬ a < b by omega)]; rfl
  · have h' := of_decide_eq_false h
    rw [decide_eq_true (show a < b by omega)]; rfl
theorem q_within : PureOk Tryz.prog 121 s_within := q_by (ctx_ok mixed puOk_nil (fns_cons is_within fns_nil)) 2 (fun x => T_within x.1 x.2.1 x.2.2.1) (fun x => by kernel_rfl) fun _ _ _ => T_within_ok _ _ _
def strongB (x y : Int) : Bool := !outB x (-16777216) 16777216 && !outB y (-16777216) 16777216
abbrev s_strong : PureT := spec [cPt] [.b] (fun _ => true) (fun x => (strongB x.1.1 x.1.2.1, ()))
def T_strong (a b : Int) : Tree (Bool × Unit) := bif !outB a (-16777216) 16777216 then .leaf (!outB b (-16777216) 16777216, ()) else .leaf (false, ())
theorem T_strong_ok (a b : Int) : (T_strong a b).sat (fun y => y = (strongB a b, ())) := by
  unfold T_strong strongB
  cases !outB a (-16777216) 16777216 <;> exact rfl
theorem q_strong : PureOk Tryz.prog 176 s_strong := q_by (ctx_ok mixed (puOk_cons is_coutside.plain q_coutside puOk_nil) (fns_cons is_strong fns_nil)) 2 (fun x => T_strong x.1.1 x.1.2.1) (fun x => by kernel_rfl) fun x _ _ => T_strong_ok _ _
theorem q_Strong : PureOk Tryz.prog 65 s_strong := q_by (ctx_ok mixed (puOk_cons is_within.plain q_within puOk_nil) (fns_cons is_Strong fns_nil)) 2 (fun x => T_strong x.1.1 x.1.2.1) (fun x => by kernel_rfl) fun x _ _ => T_strong_ok _ _
def closeB (px py qx qy s : Int) : Bool := decide (sq px py qx qy ≤ s * s ∧ 225 * (s * s) ≤ 256 * sq px py qx qy)
abbrev okClose (x : TCTs [cPt, cPt, cI]) : Bool := fpt x.1.1 x.1.2.1 && (fpt x.2.1.1 x.2.1.2.1 && decide (0 ≤ x.2.2.1 ∧ x.2.2.1 ≤ 131072))
abbrev s_close : PureT := spec [cPt, cPt, cI] [.b] okClose (fun x => (closeB x.1.1 x.1.2.1 x.2.1.1 x.2.1.2.1 x.2.2.1, ()))
theorem sq_bd' {px py qx qy : Int} (h : fpt px py = true) (k : fpt qx qy = true) : 0 ≤ sq px py qx qy ∧ sq px py qx qy ≤ 140737488355328 := by
  unfold fpt at h k
  obtain ⟨h1, h2, h3, h4⟩ := of_decide_eq_true h
  obtain ⟨k1, k2, k3, k4⟩ := of_decide_eq_true k
  unfold sq
  have a1 := self_nn (qx - px)
  have a2 := self_nn (qy - py)
  have b1 : (qx - px) * (qx - px) ≤ 8388608 * 8388608 := by
    rcases Int.le_total 0 (qx - px) with c | c
    · exact sq_le_of_le c (by omega)
    · have := sq_le_of_le (a := -(qx - px)) (b := 8388608) (by omega) (by omega)
      rwa [Int.neg_mul_neg] at this
  have b2 : (qy - py) * (qy - py) ≤ 8388608 * 8388608 := by
    rcases Int.le_total 0 (qy - py) with c | c
    · exact sq_le_of_le c (by omega)
    · have := sq_le_of_le (a := -(qy - py)) (b := 8388608) (by omega) (by omega)
      rwa [Int.neg_mul_neg] at this
  omega
theorem sum_bd {s : Int} (h0 : 0 ≤ s) (h1 : s ≤ 131072) : 0 ≤ s * s ∧ s * s ≤ 17179869184 := ⟨self_nn s, Int.mul_le_mul h1 h1 h0 (by omega)⟩
def T_close (px py qx qy s : Int) : Tree (Bool × Unit) := .leaf (!outB (W64 (256 * (SqR px py qx qy).1)) (W64 (W64 (225 * s) * s)) (W64 (W64 (256 * s) * s)), ())
theorem T_close_ok (px py qx qy s : Int) (hok : (fpt px py && (fpt qx qy && decide (0 ≤ s ∧ s ≤ 131072))) = true) : (T_close px py qx qy s).sat (fun y => y = (closeB px py qx qy s, ())) := by
  simp only [Bool.and_eq_true] at hok
  obtain ⟨h1, h2, h3⟩ := hok
  obtain ⟨h3, h4⟩ := of_decide_eq_true h3
  have hs : (SqR px py qx qy).1 = sq px py qx qy := by unfold SqR; rw [h1, h2]; rfl
  have ⟨b1, b2⟩ := sq_bd' h1 h2
  have ⟨b3, b4⟩ := sum_bd h3 h4
  unfold T_close
  rw [hs]
  refine sat_leaf ?_
  have e1 : W64 (W64 (225 * s) * s) = 225 * (s * s) := by
    rw [show W64 (225 * s) = 225 * s from wrap_id (by omega) (by omega), Int.mul_assoc]; exact wrap_id (by omega) (by omega)
  have e2 : W64 (W64 (256 * s) * s) = 256 * (s * s) := by
    rw [show W64 (256 * s) = 256 * s from wrap_id (by omega) (by omega), Int.mul_assoc]; exact wrap_id (by omega) (by omega)
  rw [e1, e2, show W64 (256 * sq px py qx qy) = 256 * sq px py qx qy from wrap_id (by omega) (by omega)]
  unfold outB closeB
  generalize sq px py qx qy = d
  generalize s * s = t
  by_cases c1 : d ≤ t
  · by_cases c2 : 225 * t ≤ 256 * d
    · rw [decide_eq_false (show ¬ 256 * d < 225 * t by omega), decide_eq_false (show ¬ 256 * t < 256 * d by omega), decide_eq_true (⟨c1, c2⟩ : d ≤ t ∧ 225 * t ≤ 256 * d)]; rfl
    · rw [decide_eq_true (show 256 * d < 225 * t by omega), decide_eq_false (fun h : d ≤ t ∧ 225 * t ≤ 256 * d => c2 h.2)]; rfl
  · rw [decide_eq_true (show 256 * t < 256 * d by omega), decide_eq_false (fun h : d ≤ t ∧ 225 * t ≤ 256 * d => c1 h.1)]; simp
theorem q_close : PureOk Tryz.prog 189 s_close := q_by (ctx_ok mixed (puOk_cons is_coutside.plain q_coutside (puOk_cons is_Square.plain q_Square puOk_nil)) (fns_cons is_close fns_nil)) 2 (fun x => T_close x.1.1 x.1.2.1 x.2.1.1 x.2.1.2.1 x.2.2.1) (fun x => by kernel_rfl) fun _ hok _ => T_close_ok _ _ _ _ _ hok
end V
end Go.Proofs.YtkiaifmbbnnliaaGreat
