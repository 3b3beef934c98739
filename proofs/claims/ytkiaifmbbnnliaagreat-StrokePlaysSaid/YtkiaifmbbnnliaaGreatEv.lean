import Derived.Test.YtkiaifmbbnnliaaGreatEu
namespace Go.Proofs.YtkiaifmbbnnliaaGreat
open Go.RowKit
namespace V
namespace St
theorem is_bN : FnIs Tryz.prog (38, Tryz.f38) := ⟨Tryz.func38, by kernel_rfl, by kernel_rfl⟩
theorem is_bO : FnIs Tryz.prog (40, Tryz.f40) := ⟨Tryz.func40, by kernel_rfl, by kernel_rfl⟩
theorem is_bP : FnIs Tryz.prog (85, Tryz.f85) := ⟨Tryz.func85, by kernel_rfl, by kernel_rfl⟩
abbrev Abw : Type := TCT cGr → TCT cSt → Int → Int → RnR
abbrev Bei (F : Abw) : PureT := B9 [cGr, cSt, cI, cI] [cSt, .sl cKn, .sl cPt, cI] (fun x => A32 x.1 x.2.1 x.2.2.1 x.2.2.2.1) (fun x => Aru (F x.1 x.2.1 x.2.2.1 x.2.2.2.1))
def rrV (g : TCT cGr) (s : TCT cSt) (b n : Int) : RnR := rrR (trS g b (Int.toNat n) s [] [])
abbrev Bej (F : Abw) : List (Nat × PureT) := (26, A0e) :: (86, Bei F) :: []
theorem Bic : By Tryz.prog (Bej rrV) := A0 is_a1.plain Vh (A0 is_bM.plain B8b Aa)
noncomputable def Arw (F : Abw) : Ctx := ctx Tryz.prog (Bej F) [(38, Tryz.f38), (40, Tryz.f40), (85, Tryz.f85)]
theorem A75 : CtxOk (Arw rrV) := Ad Ab Bic (fns_cons is_bN (fns_cons is_bO (fns_cons is_bP A2)))
def Agf (F : Abw) (g : TCT cGr) (s : TCT cSt) (n : Int) : TTR := szT g.1 (bif Ee g s != 0 then szT g.1 (.leaf (Gt (Ee g s))) else bif decide (n < 0) then .leaf (Gt 3) else bif decide (n > 4000) then .leaf (Gt 3) else bif A32 g s 0 n then .leaf (Py (F g s 0 n).1, (F g s 0 n).2.1, (F g s 0 n).2.2.2.1, ()) else .fail)
theorem Arx (F : Abw) (x : TCTs [cGr, cSt, cI]) : C4 (Arw F) 8 (.fn 38) (Ce [cGr, cSt, cI] x) Be 0 (Ft Tryz.prog [cSt, .sl cKn, cI]) = Agf F x.1 x.2.1 x.2.2.1 := by kernel_rfl
def Agg (F : Abw) (g : TCT cGr) (s : TCT cSt) (b n : Int) : Ayr := szT g.1 (bif Ee g s != 0 then szT g.1 (M5 (Ee g s)) else bif decide (b < 0) then M5 3 else bif decide (b ≥ ((A3 g).length : Int)) then M5 3 else bif decide (n < 0) then M5 3 else bif decide (n > 4000) then M5 3 else bif A32 g s b n then .leaf ((F g s b n).2.2.1, (F g s b n).2.2.2.1, ()) else .fail)
theorem Ary (F : Abw) (x : TCTs [cGr, cSt, cI, cI]) : C4 (Arw F) 8 (.fn 40) (Ce [cGr, cSt, cI, cI] x) Be 0 (Ft Tryz.prog [.sl cPt, cI]) = Agg F x.1 x.2.1 x.2.2.1 x.2.2.2.1 := by kernel_rfl
theorem Agh {g : TCT cGr} {s : TCT cSt} {b n : Int} (h1 : (g.1.1.size : Int) ≤ As .i64) (h2 : Ee g s = 0) (h3 : 0 ≤ b ∧ b < ((A3 g).length : Int)) (h4 : 0 ≤ n ∧ n ≤ 4000) : A32 g s b n = true := by
 unfold A32
 simp only [Bool.and_eq_true, decide_eq_true_eq, beq_iff_eq]
 exact ⟨h1, h2, h3, h4⟩
theorem Aza {g : TCT cGr} {s : TCT cSt} {n : Nat} : ((Py (rrV g s 0 (n : Int)).1, (rrV g s 0 (n : Int)).2.1, (rrV g s 0 (n : Int)).2.2.2.1, ()) : TkR) = Rm (Abv (rnS g n s [])) := by
 unfold rrV
 rw [show Int.toNat (n : Int) = n from rfl]
 have tr := Age (g := g) (b := 0) n s [] []
 cases h : trS g 0 n s [] [] with
 | inl r => rw [h] at tr; rw [tr.1]; rfl
 | inr e => rw [h] at tr; rw [tr]; rfl
theorem Arz {g : TCT cGr} {s : TCT cSt} {n : Int} (hs : (g.1.1.size : Int) ≤ As .i64) : (Agf rrV g s n).sat (fun y => y = Rm (Ll g s n)) := by
 unfold Agf
 rw [Aro, Bz hs]
 cases h1 : Ee g s != 0 with
 | true => rw [cond_true, Bz hs]; exact rfl
 | false =>
  have h0 := bne_eq_false_iff_eq.1 h1
  have h := Ro h0
  have hn1 := h.n1
  simp only [cond_false]
  cases h2 : decide (n < 0) with
  | true => exact rfl
  | false =>
   cases h3 : decide (n > 4000) with
   | true => exact rfl
   | false =>
    have a2 := of_decide_eq_false h2
    have a3 := of_decide_eq_false h3
    simp only [cond_false, Bool.or_false]
    rw [Agh hs h0 ⟨by omega, by omega⟩ ⟨by omega, by omega⟩, cond_true]
    obtain ⟨k, rfl⟩ := Int.eq_ofNat_of_zero_le (show 0 ≤ n by omega)
    exact Aza
theorem As0 {g : TCT cGr} {s : TCT cSt} {b n : Int} (hs : (g.1.1.size : Int) ≤ As .i64) : (Agg rrV g s b n).sat (fun y => y = Ag8 (I2 g s b n)) := by
 unfold Agg
 rw [Aj5, Bz hs]
 cases h1 : Ee g s != 0 with
 | true => rw [cond_true, Bz hs]; exact rfl
 | false =>
  have h0 := bne_eq_false_iff_eq.1 h1
  simp only [cond_false]
  cases h4 : decide (b < 0) with
  | true => exact rfl
  | false =>
   cases h5 : decide (b ≥ ((A3 g).length : Int)) with
   | true => exact rfl
   | false =>
    cases h2 : decide (n < 0) with
    | true => exact rfl
    | false =>
     cases h3 : decide (n > 4000) with
     | true => exact rfl
     | false =>
      have a2 := of_decide_eq_false h2
      have a3 := of_decide_eq_false h3
      have a4 := of_decide_eq_false h4
      have a5 := of_decide_eq_false h5
      simp only [cond_false, Bool.or_false]
      rw [Agh hs h0 ⟨by omega, by omega⟩ ⟨by omega, by omega⟩, cond_true]
      unfold rrV
      cases trS g b (Int.toNat n) s [] [] <;> exact rfl
theorem As1 : A7 Tryz.prog 38 Ag5 := B6 A75 8 (fun x => Agf rrV x.1 x.2.1 x.2.2.1) (Arx rrV) fun _ hok _ => Arz (of_decide_eq_true hok)
theorem Aj6 : A7 Tryz.prog 40 A6y := B6 A75 8 (fun x => Agg rrV x.1 x.2.1 x.2.2.1 x.2.2.2.1) (Ary rrV) fun _ hok _ => As0 (of_decide_eq_true hok)
end St
end V
end Go.Proofs.YtkiaifmbbnnliaaGreat
