import Derived.Test.YtkiaifmbbnnliaaGreatVC
import Derived.Test.YtkiaifmbbnnliaaGreatTV
namespace Go.Proofs.YtkiaifmbbnnliaaGreat
open Go.RowKit
namespace V
abbrev A4 : TC := .st [cI, cI]
abbrev Aj : TC := .st [cPt, cPt, cPt]
abbrev D5 : TC := .st [cI, cI]
theorem is_dot : FnIs Tryz.prog (186, Tryz.f186) := ⟨Tryz.func186, by kernel_rfl, by kernel_rfl⟩
theorem is_rdot : FnIs Tryz.prog (167, Tryz.f167) := ⟨Tryz.func167, by kernel_rfl, by kernel_rfl⟩
theorem is_way : FnIs Tryz.prog (190, Tryz.f190) := ⟨Tryz.func190, by kernel_rfl, by kernel_rfl⟩
theorem is_rway : FnIs Tryz.prog (166, Tryz.f166) := ⟨Tryz.func166, by kernel_rfl, by kernel_rfl⟩
theorem is_coutside : FnIs Tryz.prog (142, Tryz.f142) := ⟨Tryz.func142, by kernel_rfl, by kernel_rfl⟩
theorem is_within : FnIs Tryz.prog (121, Tryz.f121) := ⟨Tryz.func121, by kernel_rfl, by kernel_rfl⟩
theorem is_strong : FnIs Tryz.prog (176, Tryz.f176) := ⟨Tryz.func176, by kernel_rfl, by kernel_rfl⟩
theorem is_Strong : FnIs Tryz.prog (65, Tryz.f65) := ⟨Tryz.func65, by kernel_rfl, by kernel_rfl⟩
theorem is_close : FnIs Tryz.prog (189, Tryz.f189) := ⟨Tryz.func189, by kernel_rfl, by kernel_rfl⟩
theorem is_Close : FnIs Tryz.prog (165, Tryz.f165) := ⟨Tryz.func165, by kernel_rfl, by kernel_rfl⟩
theorem is_down : FnIs Tryz.prog (192, Tryz.f192) := ⟨Tryz.func192, by kernel_rfl, by kernel_rfl⟩
theorem is_urge : FnIs Tryz.prog (199, Tryz.f199) := ⟨Tryz.func199, by kernel_rfl, by kernel_rfl⟩
abbrev Agy : PureT := B9 [cPt, cPt] [cI] (fun _ => true) (fun x => (W64 (W64 (x.1.1 * x.2.1.1) + W64 (x.1.2.1 * x.2.1.2.1)), ()))
theorem Bev : A7 Tryz.prog 186 Agy := Sf (Ad Ab Aa (fns_cons is_dot A2)) 2 (fun x => by kernel_rfl)
theorem B94 : A7 Tryz.prog 167 Agy := Sf (Ad Ab Aa (fns_cons is_rdot A2)) 2 (fun x => by kernel_rfl)
abbrev Agz : PureT := B9 [cPt, cPt] [cPt] (fun _ => true) (fun x => ((W64 (x.2.1.1 - x.1.1), W64 (x.2.1.2.1 - x.1.2.1), ()), ()))
theorem Bew : A7 Tryz.prog 190 Agz := Sf (Ad Ab Aa (fns_cons is_way A2)) 2 (fun x => by kernel_rfl)
theorem B95 : A7 Tryz.prog 166 Agz := Sf (Ad Ab Aa (fns_cons is_rway A2)) 2 (fun x => by kernel_rfl)
abbrev B3t : PureT := B9 [cI, cI, cI] [.b] (fun _ => true) (fun x => (Az x.1 x.2.1 x.2.2.1, ()))
theorem P5 : A7 Tryz.prog 142 B3t := Ih (Ad Ab Aa (fns_cons is_coutside A2)) 2 fun x _ _ => by
 obtain ⟨a, b, c, _⟩ := x
 refine A4k (t := bif decide (a < b) then .leaf (true, ()) else .leaf (decide (a > c), ())) (by kernel_rfl) ?_
 refine B2 (fun h => ?_) (fun h => ?_) <;> refine Au ?_ <;> (show _ = (Az a b c, ()); unfold Az; rw [h]; rfl)
abbrev A80 : PureT := B9 [cI, cI, cI] [.b] (fun _ => true) (fun x => (!Az x.1 x.2.1 x.2.2.1, ()))
def X2 (a b c : Int) : Tree (Bool × Unit) := bif decide (a ≥ b) then .leaf (decide (a ≤ c), ()) else .leaf (false, ())
theorem A81 (a b c : Int) : (X2 a b c).sat (fun y => y = (!Az a b c, ())) := by
 unfold X2 Az
 refine B2 (fun h => Au ?_) (fun h => Au ?_)
 ·have h' := of_decide_eq_true h
  by_cases k : c < a
  ·rw [decide_eq_true k, decide_eq_false (show ¬ a ≤ c by omega)]; simp
  ·rw [decide_eq_false k, decide_eq_true (show a ≤ c by omega), decide_eq_false (show ¬ a < b by omega)]; rfl
 ·have h' := of_decide_eq_false h
  rw [decide_eq_true (show a < b by omega)]; rfl
theorem A82 : A7 Tryz.prog 121 A80 := B6 (Ad Ab Aa (fns_cons is_within A2)) 2 (fun x => X2 x.1 x.2.1 x.2.2.1) (fun x => by kernel_rfl) fun _ _ _ => A81 _ _ _
def Ay (x y : Int) : Bool := !Az x (-16777216) 16777216 && !Az y (-16777216) 16777216
abbrev Mc : PureT := B9 [cPt] [.b] (fun _ => true) (fun x => (Ay x.1.1 x.1.2.1, ()))
def Qc (a b : Int) : Tree (Bool × Unit) := bif !Az a (-16777216) 16777216 then .leaf (!Az b (-16777216) 16777216, ()) else .leaf (false, ())
theorem T5 (a b : Int) : (Qc a b).sat (fun y => y = (Ay a b, ())) := by
 unfold Qc Ay
 cases !Az a (-16777216) 16777216 <;> exact rfl
theorem Atf : A7 Tryz.prog 176 Mc := B6 (Ad Ab (A0 is_coutside.plain P5 Aa) (fns_cons is_strong A2)) 2 (fun x => Qc x.1.1 x.1.2.1) (fun x => by kernel_rfl) fun x _ _ => T5 _ _
theorem A83 : A7 Tryz.prog 65 Mc := B6 (Ad Ab (A0 is_within.plain A82 Aa) (fns_cons is_Strong A2)) 2 (fun x => Qc x.1.1 x.1.2.1) (fun x => by kernel_rfl) fun x _ _ => T5 _ _
def Fi (px py qx qy s : Int) : Bool := decide (sq px py qx qy ≤ s * s ∧ 225 * (s * s) ≤ 256 * sq px py qx qy)
abbrev B07 (x : TCTs [cPt, cPt, cI]) : Bool := fpt x.1.1 x.1.2.1 && (fpt x.2.1.1 x.2.1.2.1 && decide (0 ≤ x.2.2.1 ∧ x.2.2.1 ≤ 131072))
abbrev Un : PureT := B9 [cPt, cPt, cI] [.b] B07 (fun x => (Fi x.1.1 x.1.2.1 x.2.1.1 x.2.1.2.1 x.2.2.1, ()))
theorem Atg {px py qx qy : Int} (h : fpt px py = true) (k : fpt qx qy = true) : 0 ≤ sq px py qx qy ∧ sq px py qx qy ≤ 140737488355328 := by
 unfold fpt at h k
 obtain ⟨h1, h2, h3, h4⟩ := of_decide_eq_true h
 obtain ⟨k1, k2, k3, k4⟩ := of_decide_eq_true k
 unfold sq
 have a1 := Ja (qx - px)
 have a2 := Ja (qy - py)
 have b1 : (qx - px) * (qx - px) ≤ 8388608 * 8388608 := by
  rcases Int.le_total 0 (qx - px) with c | c
  ·exact E4 c (by omega)
  ·have := E4 (a := -(qx - px)) (b := 8388608) (by omega) (by omega)
   rwa [Int.neg_mul_neg] at this
 have b2 : (qy - py) * (qy - py) ≤ 8388608 * 8388608 := by
  rcases Int.le_total 0 (qy - py) with c | c
  ·exact E4 c (by omega)
  ·have := E4 (a := -(qy - py)) (b := 8388608) (by omega) (by omega)
   rwa [Int.neg_mul_neg] at this
 omega
theorem Ath {s : Int} (h0 : 0 ≤ s) (h1 : s ≤ 131072) : 0 ≤ s * s ∧ s * s ≤ 17179869184 := ⟨Ja s, Int.mul_le_mul h1 h1 h0 (by omega)⟩
def A3i (px py qx qy s : Int) : Tree (Bool × Unit) := .leaf (!Az (W64 (256 * (SqR px py qx qy).1)) (W64 (W64 (225 * s) * s)) (W64 (W64 (256 * s) * s)), ())
theorem Ach (px py qx qy s : Int) (hok : (fpt px py && (fpt qx qy && decide (0 ≤ s ∧ s ≤ 131072))) = true) : (A3i px py qx qy s).sat (fun y => y = (Fi px py qx qy s, ())) := by
 simp only [Bool.and_eq_true] at hok
 obtain ⟨h1, h2, h3⟩ := hok
 obtain ⟨h3, h4⟩ := of_decide_eq_true h3
 have hs : (SqR px py qx qy).1 = sq px py qx qy := by unfold SqR; rw [h1, h2]; rfl
 have ⟨b1, b2⟩ := Atg h1 h2
 have ⟨b3, b4⟩ := Ath h3 h4
 unfold A3i
 rw [hs]
 refine Au ?_
 have e1 : W64 (W64 (225 * s) * s) = 225 * (s * s) := by
  rw [show W64 (225 * s) = 225 * s from A5 (by omega) (by omega), Int.mul_assoc]; exact A5 (by omega) (by omega)
 have e2 : W64 (W64 (256 * s) * s) = 256 * (s * s) := by
  rw [show W64 (256 * s) = 256 * s from A5 (by omega) (by omega), Int.mul_assoc]; exact A5 (by omega) (by omega)
 rw [e1, e2, show W64 (256 * sq px py qx qy) = 256 * sq px py qx qy from A5 (by omega) (by omega)]
 unfold Az Fi
 generalize sq px py qx qy = d
 generalize s * s = t
 by_cases c1 : d ≤ t
 ·by_cases c2 : 225 * t ≤ 256 * d
  ·rw [decide_eq_false (show ¬ 256 * d < 225 * t by omega), decide_eq_false (show ¬ 256 * t < 256 * d by omega), decide_eq_true (⟨c1, c2⟩ : d ≤ t ∧ 225 * t ≤ 256 * d)]; rfl
  ·rw [decide_eq_true (show 256 * d < 225 * t by omega), decide_eq_false (fun h : d ≤ t ∧ 225 * t ≤ 256 * d => c2 h.2)]; rfl
 ·rw [decide_eq_true (show 256 * t < 256 * d by omega), decide_eq_false (fun h : d ≤ t ∧ 225 * t ≤ 256 * d => c1 h.1)]; simp
theorem B08 : A7 Tryz.prog 189 Un := B6 (Ad Ab (A0 is_coutside.plain P5 (A0 is_b0.plain At4 Aa)) (fns_cons is_close A2)) 2 (fun x => A3i x.1.1 x.1.2.1 x.2.1.1 x.2.1.2.1 x.2.2.1) (fun x => by kernel_rfl) fun _ hok _ => Ach _ _ _ _ _ hok
def A3j (px py qx qy s : Int) : Tree (Bool × Unit) := bif fpt px py && fpt qx qy then bif decide (sq px py qx qy ≤ W64 (s * s)) then .leaf (decide (W64 (256 * sq px py qx qy) ≥ W64 (W64 (225 * s) * s)), ()) else .leaf (false, ()) else .fail
theorem Aci (px py qx qy s : Int) (hok : (fpt px py && (fpt qx qy && decide (0 ≤ s ∧ s ≤ 131072))) = true) : (A3j px py qx qy s).sat (fun y => y = (Fi px py qx qy s, ())) := by
 simp only [Bool.and_eq_true] at hok
 obtain ⟨h1, h2, h3⟩ := hok
 obtain ⟨h3, h4⟩ := of_decide_eq_true h3
 have ⟨b1, b2⟩ := Atg h1 h2
 have ⟨b3, b4⟩ := Ath h3 h4
 unfold A3j
 have e1 : W64 (W64 (225 * s) * s) = 225 * (s * s) := by
  rw [show W64 (225 * s) = 225 * s from A5 (by omega) (by omega), Int.mul_assoc]; exact A5 (by omega) (by omega)
 rw [e1, h1, h2, show W64 (256 * sq px py qx qy) = 256 * sq px py qx qy from A5 (by omega) (by omega), show W64 (s * s) = s * s from A5 (by omega) (by omega)]
 unfold Fi
 generalize sq px py qx qy = d
 generalize s * s = t
 rw [Bool.and_self, cond_true]
 refine B2 (fun h => Au ?_) (fun h => Au ?_)
 ·have h' := of_decide_eq_true h
  by_cases c2 : 225 * t ≤ 256 * d
  ·rw [decide_eq_true (show 256 * d ≥ 225 * t from c2), decide_eq_true (⟨h', c2⟩ : d ≤ t ∧ 225 * t ≤ 256 * d)]
  ·rw [decide_eq_false (show ¬ 256 * d ≥ 225 * t from c2), decide_eq_false (fun h : d ≤ t ∧ 225 * t ≤ 256 * d => c2 h.2)]
 ·have h' := of_decide_eq_false h
  rw [decide_eq_false (fun h : d ≤ t ∧ 225 * t ≤ 256 * d => h' h.1)]
theorem B09 : A7 Tryz.prog 165 Un := B6 (Ad Ab (A0 is_b4.plain B3s Aa) (fns_cons is_Close A2)) 2 (fun x => A3j x.1.1 x.1.2.1 x.2.1.1 x.2.1.2.1 x.2.2.1) (fun x => by kernel_rfl) fun _ hok _ => Aci _ _ _ _ _ hok
end V
end Go.Proofs.YtkiaifmbbnnliaaGreat
