import Derived.Test.YtkiaifmbbnnliaaGreatVC
import Derived.Test.YtkiaifmbbnnliaaGreatTV
namespace Go.Proofs.YtkiaifmbbnnliaaGreat
open Go.RowKit
namespace V
abbrev A3 : TC := .st [cI, cI]
abbrev Ai : TC := .st [cPt, cPt, cPt]
abbrev Dz : TC := .st [cI, cI]
theorem is_dot : FnIs Tryz.prog (186, Tryz.f186) := ⟨Tryz.func186, by kernel_rfl, by kernel_rfl⟩
theorem is_rdot : FnIs Tryz.prog (167, Tryz.f167) := ⟨Tryz.func167, by kernel_rfl, by kernel_rfl⟩
theorem is_way : FnIs Tryz.prog (190, Tryz.f190) := ⟨Tryz.func190, by kernel_rfl, by kernel_rfl⟩
theorem is_rway : FnIs Tryz.prog (166, Tryz.f166) := ⟨Tryz.func166, by kernel_rfl, by kernel_rfl⟩
theorem is_coutside : FnIs Tryz.prog (142, Tryz.f142) := ⟨Tryz.func142, by kernel_rfl, by kernel_rfl⟩
theorem is_within : FnIs Tryz.prog (121, Tryz.f121) := ⟨Tryz.func121, by kernel_rfl, by kernel_rfl⟩
theorem is_strong : FnIs Tryz.prog (176, Tryz.f176) := ⟨Tryz.func176, by kernel_rfl, by kernel_rfl⟩
theorem is_Strong : FnIs Tryz.prog (65, Tryz.f65) := ⟨Tryz.func65, by kernel_rfl, by kernel_rfl⟩
theorem is_close : FnIs Tryz.prog (189, Tryz.f189) := ⟨Tryz.func189, by kernel_rfl, by kernel_rfl⟩
theorem is_Close : FnIs Tryz.prog (165, Tryz.f165) := ⟨Tryz.func165, by kernel_rfl, by kernel_rfl⟩
theorem is_down : FnIs Tryz.prog (192, Tryz.f192) := ⟨Tryz.func192, by kernel_rfl, by kernel_rfl⟩
theorem is_urge : FnIs Tryz.prog (199, Tryz.f199) := ⟨Tryz.func199, by kernel_rfl, by kernel_rfl⟩
abbrev Adn : PureT := B4 [cPt, cPt] [cI] (fun _ => true) (fun x => (W64 (W64 (x.1.1 * x.2.1.1) + W64 (x.1.2.1 * x.2.1.2.1)), ()))
theorem B6r : A7 Tryz.prog 186 Adn := S6 (Ad Ab A9 (fns_cons is_dot A2)) 2 (fun x => by kernel_rfl)
theorem B27 : A7 Tryz.prog 167 Adn := S6 (Ad Ab A9 (fns_cons is_rdot A2)) 2 (fun x => by kernel_rfl)
abbrev Ado : PureT := B4 [cPt, cPt] [cPt] (fun _ => true) (fun x => ((W64 (x.2.1.1 - x.1.1), W64 (x.2.1.2.1 - x.1.2.1), ()), ()))
theorem B6s : A7 Tryz.prog 190 Ado := S6 (Ad Ab A9 (fns_cons is_way A2)) 2 (fun x => by kernel_rfl)
theorem B28 : A7 Tryz.prog 166 Ado := S6 (Ad Ab A9 (fns_cons is_rway A2)) 2 (fun x => by kernel_rfl)
abbrev Axu : PureT := B4 [cI, cI, cI] [.b] (fun _ => true) (fun x => (Aw x.1 x.2.1 x.2.2.1, ()))
theorem P0 : A7 Tryz.prog 142 Axu := I8 (Ad Ab A9 (fns_cons is_coutside A2)) 2 fun x _ _ => by
 obtain ⟨a, b, c, _⟩ := x
 refine A3f (t := bif decide (a < b) then .leaf (true, ()) else .leaf (decide (a > c), ())) (by kernel_rfl) ?_
 refine B6 (fun h => ?_) (fun h => ?_) <;> refine At ?_ <;> (show _ = (Aw a b c, ()); unfold Aw; rw [h]; rfl)
abbrev A6i : PureT := B4 [cI, cI, cI] [.b] (fun _ => true) (fun x => (!Aw x.1 x.2.1 x.2.2.1, ()))
def W4 (a b c : Int) : Tree (Bool × Unit) := bif decide (a ≥ b) then .leaf (decide (a ≤ c), ()) else .leaf (false, ())
theorem A6j (a b c : Int) : (W4 a b c).sat (fun y => y = (!Aw a b c, ())) := by
 unfold W4 Aw
 refine B6 (fun h => At ?_) (fun h => At ?_)
 ·have h' := of_decide_eq_true h
  by_cases k : c < a
  ·rw [decide_eq_true k, decide_eq_false (show ¬ a ≤ c by omega)]; simp
  ·rw [decide_eq_false k, decide_eq_true (show a ≤ c by omega), decide_eq_false (show ¬ a < b by omega)]; rfl
 ·have h' := of_decide_eq_false h
  rw [decide_eq_true (show a < b by omega)]; rfl
theorem A6k : A7 Tryz.prog 121 A6i := B2 (Ad Ab A9 (fns_cons is_within A2)) 2 (fun x => W4 x.1 x.2.1 x.2.2.1) (fun x => by kernel_rfl) fun _ _ _ => A6j _ _ _
def Au (x y : Int) : Bool := !Aw x (-16777216) 16777216 && !Aw y (-16777216) 16777216
abbrev Q7 : PureT := B4 [cPt] [.b] (fun _ => true) (fun x => (Au x.1.1 x.1.2.1, ()))
def Q8 (a b : Int) : Tree (Bool × Unit) := bif !Aw a (-16777216) 16777216 then .leaf (!Aw b (-16777216) 16777216, ()) else .leaf (false, ())
theorem Ss (a b : Int) : (Q8 a b).sat (fun y => y = (Au a b, ())) := by
 unfold Q8 Au
 cases !Aw a (-16777216) 16777216 <;> exact rfl
theorem Aof : A7 Tryz.prog 176 Q7 := B2 (Ad Ab (A0 is_coutside.plain P0 A9) (fns_cons is_strong A2)) 2 (fun x => Q8 x.1.1 x.1.2.1) (fun x => by kernel_rfl) fun x _ _ => Ss _ _
theorem Aog : A7 Tryz.prog 65 Q7 := B2 (Ad Ab (A0 is_within.plain A6k A9) (fns_cons is_Strong A2)) 2 (fun x => Q8 x.1.1 x.1.2.1) (fun x => by kernel_rfl) fun x _ _ => Ss _ _
def F0 (px py qx qy s : Int) : Bool := decide (sq px py qx qy ≤ s * s ∧ 225 * (s * s) ≤ 256 * sq px py qx qy)
abbrev Av3 (x : TCTs [cPt, cPt, cI]) : Bool := fpt x.1.1 x.1.2.1 && (fpt x.2.1.1 x.2.1.2.1 && decide (0 ≤ x.2.2.1 ∧ x.2.2.1 ≤ 131072))
abbrev Tv : PureT := B4 [cPt, cPt, cI] [.b] Av3 (fun x => (F0 x.1.1 x.1.2.1 x.2.1.1 x.2.1.2.1 x.2.2.1, ()))
theorem Aoh {px py qx qy : Int} (h : fpt px py = true) (k : fpt qx qy = true) : 0 ≤ sq px py qx qy ∧ sq px py qx qy ≤ 140737488355328 := by
 unfold fpt at h k
 obtain ⟨h1, h2, h3, h4⟩ := of_decide_eq_true h
 obtain ⟨k1, k2, k3, k4⟩ := of_decide_eq_true k
 unfold sq
 have a1 := Ja (qx - px)
 have a2 := Ja (qy - py)
 have b1 : (qx - px) * (qx - px) ≤ 8388608 * 8388608 := by
  rcases Int.le_total 0 (qx - px) with c | c
  ·exact Df c (by omega)
  ·have := Df (a := -(qx - px)) (b := 8388608) (by omega) (by omega)
   rwa [Int.neg_mul_neg] at this
 have b2 : (qy - py) * (qy - py) ≤ 8388608 * 8388608 := by
  rcases Int.le_total 0 (qy - py) with c | c
  ·exact Df c (by omega)
  ·have := Df (a := -(qy - py)) (b := 8388608) (by omega) (by omega)
   rwa [Int.neg_mul_neg] at this
 omega
theorem Aoi {s : Int} (h0 : 0 ≤ s) (h1 : s ≤ 131072) : 0 ≤ s * s ∧ s * s ≤ 17179869184 := ⟨Ja s, Int.mul_le_mul h1 h1 h0 (by omega)⟩
def A2d (px py qx qy s : Int) : Tree (Bool × Unit) := .leaf (!Aw (W64 (256 * (SqR px py qx qy).1)) (W64 (W64 (225 * s) * s)) (W64 (W64 (256 * s) * s)), ())
theorem Aaa (px py qx qy s : Int) (hok : (fpt px py && (fpt qx qy && decide (0 ≤ s ∧ s ≤ 131072))) = true) : (A2d px py qx qy s).sat (fun y => y = (F0 px py qx qy s, ())) := by
 simp only [Bool.and_eq_true] at hok
 obtain ⟨h1, h2, h3⟩ := hok
 obtain ⟨h3, h4⟩ := of_decide_eq_true h3
 have hs : (SqR px py qx qy).1 = sq px py qx qy := by unfold SqR; rw [h1, h2]; rfl
 have ⟨b1, b2⟩ := Aoh h1 h2
 have ⟨b3, b4⟩ := Aoi h3 h4
 unfold A2d
 rw [hs]
 refine At ?_
 have e1 : W64 (W64 (225 * s) * s) = 225 * (s * s) := by
  rw [show W64 (225 * s) = 225 * s from A6 (by omega) (by omega), Int.mul_assoc]; exact A6 (by omega) (by omega)
 have e2 : W64 (W64 (256 * s) * s) = 256 * (s * s) := by
  rw [show W64 (256 * s) = 256 * s from A6 (by omega) (by omega), Int.mul_assoc]; exact A6 (by omega) (by omega)
 rw [e1, e2, show W64 (256 * sq px py qx qy) = 256 * sq px py qx qy from A6 (by omega) (by omega)]
 unfold Aw F0
 generalize sq px py qx qy = d
 generalize s * s = t
 by_cases c1 : d ≤ t
 ·by_cases c2 : 225 * t ≤ 256 * d
  ·rw [decide_eq_false (show ¬ 256 * d < 225 * t by omega), decide_eq_false (show ¬ 256 * t < 256 * d by omega), decide_eq_true (⟨c1, c2⟩ : d ≤ t ∧ 225 * t ≤ 256 * d)]; rfl
  ·rw [decide_eq_true (show 256 * d < 225 * t by omega), decide_eq_false (fun h : d ≤ t ∧ 225 * t ≤ 256 * d => c2 h.2)]; rfl
 ·rw [decide_eq_true (show 256 * t < 256 * d by omega), decide_eq_false (fun h : d ≤ t ∧ 225 * t ≤ 256 * d => c1 h.1)]; simp
theorem Av4 : A7 Tryz.prog 189 Tv := B2 (Ad Ab (A0 is_coutside.plain P0 (A0 is_bK.plain Ao3 A9)) (fns_cons is_close A2)) 2 (fun x => A2d x.1.1 x.1.2.1 x.2.1.1 x.2.1.2.1 x.2.2.1) (fun x => by kernel_rfl) fun _ hok _ => Aaa _ _ _ _ _ hok
def A2e (px py qx qy s : Int) : Tree (Bool × Unit) := bif fpt px py && fpt qx qy then bif decide (sq px py qx qy ≤ W64 (s * s)) then .leaf (decide (W64 (256 * sq px py qx qy) ≥ W64 (W64 (225 * s) * s)), ()) else .leaf (false, ()) else .fail
theorem Aab (px py qx qy s : Int) (hok : (fpt px py && (fpt qx qy && decide (0 ≤ s ∧ s ≤ 131072))) = true) : (A2e px py qx qy s).sat (fun y => y = (F0 px py qx qy s, ())) := by
 simp only [Bool.and_eq_true] at hok
 obtain ⟨h1, h2, h3⟩ := hok
 obtain ⟨h3, h4⟩ := of_decide_eq_true h3
 have ⟨b1, b2⟩ := Aoh h1 h2
 have ⟨b3, b4⟩ := Aoi h3 h4
 unfold A2e
 have e1 : W64 (W64 (225 * s) * s) = 225 * (s * s) := by
  rw [show W64 (225 * s) = 225 * s from A6 (by omega) (by omega), Int.mul_assoc]; exact A6 (by omega) (by omega)
 rw [e1, h1, h2, show W64 (256 * sq px py qx qy) = 256 * sq px py qx qy from A6 (by omega) (by omega), show W64 (s * s) = s * s from A6 (by omega) (by omega)]
 unfold F0
 generalize sq px py qx qy = d
 generalize s * s = t
 rw [Bool.and_self, cond_true]
 refine B6 (fun h => At ?_) (fun h => At ?_)
 ·have h' := of_decide_eq_true h
  by_cases c2 : 225 * t ≤ 256 * d
  ·rw [decide_eq_true (show 256 * d ≥ 225 * t from c2), decide_eq_true (⟨h', c2⟩ : d ≤ t ∧ 225 * t ≤ 256 * d)]
  ·rw [decide_eq_false (show ¬ 256 * d ≥ 225 * t from c2), decide_eq_false (fun h : d ≤ t ∧ 225 * t ≤ 256 * d => c2 h.2)]
 ·have h' := of_decide_eq_false h
  rw [decide_eq_false (fun h : d ≤ t ∧ 225 * t ≤ 256 * d => h' h.1)]
theorem Av5 : A7 Tryz.prog 165 Tv := B2 (Ad Ab (A0 is_bO.plain B6o A9) (fns_cons is_Close A2)) 2 (fun x => A2e x.1.1 x.1.2.1 x.2.1.1 x.2.1.2.1 x.2.2.1) (fun x => by kernel_rfl) fun _ hok _ => Aab _ _ _ _ _ hok
end V
end Go.Proofs.YtkiaifmbbnnliaaGreat
