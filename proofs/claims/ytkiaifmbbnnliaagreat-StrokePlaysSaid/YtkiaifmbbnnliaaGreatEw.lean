import Derived.Test.YtkiaifmbbnnliaaGreatEv
import Derived.Test.YtkiaifmbbnnliaaGreatDq
namespace Go.Proofs.YtkiaifmbbnnliaaGreat
open Go.RowKit
namespace V
namespace St
theorem is_bQ : FnIs Tryz.prog (9, Tryz.f9) := ⟨Tryz.func9, by kernel_rfl, by kernel_rfl⟩
abbrev A0y : Type := TCT cGr → TCT cSt → TCT cBw → TkR
abbrev Wm : Type := TCT cGr → TCT cSt → Int → TkR
abbrev Wn : Type := TCT cGr → TCT cSt → Int → Int → TrR
abbrev Azb (F : A0y) : PureT := B9 [cGr, cSt, cBw] [cSt, .sl cKn, cI] (fun x => decide ((x.1.1.1.size : Int) ≤ As .i64)) (fun x => Rm (F x.1 x.2.1 x.2.2.1))
abbrev Agi (P : Wm) : PureT := B9 [cGr, cSt, cI] [cSt, .sl cKn, cI] (fun x => decide ((x.1.1.1.size : Int) ≤ As .i64)) (fun x => Rm (P x.1 x.2.1 x.2.2.1))
abbrev Agj (Q : Wn) : PureT := B9 [cGr, cSt, cI, cI] [.sl cPt, cI] (fun x => decide ((x.1.1.1.size : Int) ≤ As .i64)) (fun x => Ag8 (Q x.1 x.2.1 x.2.2.1 x.2.2.2.1))
noncomputable def B3k (F : A0y) (P : Wm) (Q : Wn) : List (Nat × PureT) := (15, Aff) :: (18, Apl) :: (19, B2b) :: (41, B2c) :: (17, Azb F) :: (37, Agi P) :: (38, Agi P) :: (39, Agj Q) :: (40, Agj Q) :: []
theorem Bek : By Tryz.prog (B3k skV Ll I2) := A0 is_bm.plain Ap6 (A0 is_bu.plain B6i (A0 is_bs.plain Bci (A0 is_bt.plain Bcm (A0 is_bB.plain Abq (A0 is_bI.plain Ayp (A0 is_bN.plain As1 (A0 is_bK.plain Ara (A0 is_bO.plain Aj6 Aa))))))))
noncomputable def As2 (g : TCT cGr) (A : TkR) (T : TrR) : Tree Unit := szT g.1 (szT g.1 (szT g.1 (szT g.1 (bif A.2.2.1 == A.2.2.1 then bif eqC (α := TCT cSt) (Py A.1) (Py A.1) then bif eqC (α := Kns) A.2.1 A.2.1 then bif T.2.1 == T.2.1 then bif eqC (α := Fh) T.1 T.1 then lfU else .fail else .fail else .fail else .fail else .fail))))
noncomputable def As3 (P : Wm) (Q : Wn) (g : TCT cGr) (s : TCT cSt) (ball n : Int) : Tree Unit := As2 g (P g s n) (Q g s ball n)
noncomputable def Agk (F : A0y) (P : Wm) (Q : Wn) (g : TCT cGr) (s : TCT cSt) (w : TCT cBw) (ball n : Int) : Tree Unit := szT g.1 (bif (F g s w).2.2.1 == 0 then As3 P Q g (Py (F g s w).1) ball n else As3 P Q g s ball n)
noncomputable def B8c (F : A0y) (P : Wm) (Q : Wn) (g : TCT cGr) (s : TCT cSt) (w : TCT cBw) (ball n : Int) : Tree Unit := B6j g s lfU (bif decide (n > 40) then bif decide (n ≤ 4000) then lfU else Agk F P Q g s w ball n else Agk F P Q g s w ball n)
end St
open St
abbrev cs_strokePlays : List TC := [cGr, cSt, cBw, cI, cI]
noncomputable def M7 (F : A0y) (P : Wm) (Q : Wn) : Ctx := ctx Tryz.prog (B3k F P Q) [(9, Tryz.f9), (14, Tryz.f14)]
noncomputable def X_strokePlays : Ctx := M7 skV Ll I2
theorem X_strokePlays_ok : CtxOk X_strokePlays := Ad Ab Bek (fns_cons is_bQ (fns_cons is_bv A2))
theorem Azc (F : A0y) (P : Wm) (Q : Wn) (y : TCTs cs_strokePlays) : C4 (M7 F P Q) 8 (.fn 9) (Ce cs_strokePlays y) Be 0 Adm = B8c F P Q y.1 y.2.1 y.2.2.1 y.2.2.2.1 y.2.2.2.2.1 := by kernel_rfl
namespace St
theorem A76 {g : TCT cGr} {A : TkR} {T : TrR} (hs : (g.1.1.size : Int) ≤ As .i64) : (As2 g A T).sat (fun _ => True) := by
 unfold As2
 rw [Bz hs, Bz hs, Bz hs, Bz hs, beq_self_eq_true, beq_self_eq_true, Afg rfl, Afg rfl, Afg rfl]
 exact trivial
theorem A77 {g : TCT cGr} {s : TCT cSt} {w : TCT cBw} {ball n : Int} (hs : (g.1.1.size : Int) ≤ As .i64) : (Agk skV Ll I2 g s w ball n).sat (fun _ => True) := by
 unfold Agk As3
 rw [Bz hs]
 cases (skV g s w).2.2.1 == 0 with
 | true => exact A76 hs
 | false => exact A76 hs
theorem B8d {g : TCT cGr} {s : TCT cSt} {w : TCT cBw} {ball n : Int} (hs : (g.1.1.size : Int) ≤ As .i64) : (B8c skV Ll I2 g s w ball n).sat (fun _ => True) := by
 refine Axv hs trivial fun _ _ => ?_
 cases decide (n > 40) with
 | false => exact A77 hs
 | true =>
  cases decide (n ≤ 4000) with
  | true => exact trivial
  | false => exact A77 hs
end St
theorem strokePlays_sat : LawSat2 X_strokePlays 9 cs_strokePlays 8 := B1o 8 (fun y => B8c skV Ll I2 y.1 y.2.1 y.2.2.1 y.2.2.2.1 y.2.2.2.2.1) (Azc skV Ll I2) fun _ _ hs => B8d hs.1.1.1
end V
end Go.Proofs.YtkiaifmbbnnliaaGreat
