import Derived.Test.YtkiaifmbbnnliaaGreatFp
namespace Go.Proofs.YtkiaifmbbnnliaaGreat
open Go.RowKit
namespace V
namespace St
def Ir (g : TCT cGr) (s : TCT cSt) : Bool :=
 bif decide ((g.1.1.size : Int) > 100) then true else bif decide (((Ak g.1).length : Int) > 20) then true else bif decide (((Bt g.1).length : Int) > 300) then true else
 bif decide (((A4 g).length : Int) > 5) then bif decide (((A4 g).length : Int) ≤ 8) then true else bif decide (((A4 g).length : Int) > 12) then true else bif decide (((msT s).length : Int) > 12) then true else decide (((osT s).length : Int) > 12)
 else bif decide (((A4 g).length : Int) > 12) then true else bif decide (((msT s).length : Int) > 12) then true else decide (((osT s).length : Int) > 12)
def Ye (b : Bool) : Tree (TCTs [.b]) := .leaf (b, ())
def Amw (g : TCT cGr) (s : TCT cSt) : Tree (TCTs [.b]) :=
 bif G4 .i64 (g.1.1.size : Int) then bif decide ((g.1.1.size : Int) > 100) then Ye true else bif decide (((Ak g.1).length : Int) > 20) then Ye true else bif decide (((Bt g.1).length : Int) > 300) then Ye true else
 bif decide (((A4 g).length : Int) > 5) then bif decide (((A4 g).length : Int) ≤ 8) then Ye true else bif decide (((A4 g).length : Int) > 12) then Ye true else bif decide (((msT s).length : Int) > 12) then Ye true else Ye (decide (((osT s).length : Int) > 12))
 else bif decide (((A4 g).length : Int) > 12) then Ye true else bif decide (((msT s).length : Int) > 12) then Ye true else Ye (decide (((osT s).length : Int) > 12)) else .fail
abbrev Atz : PureT := B4 [cGr, cSt] [.b] (fun x => decide ((x.1.1.1.size : Int) ≤ As .i64)) (fun x => (Ir x.1 x.2.1, ()))
theorem B1a {g : TCT cGr} {s : TCT cSt} (hs : (g.1.1.size : Int) ≤ As .i64) : (Amw g s).sat (fun y => y = (Ir g s, ())) := by
 have h0 : G4 .i64 (g.1.1.size : Int) = true := by
  unfold G4
  have : (g.1.1.size : Int) ≤ 9223372036854775807 := hs
  simp only [Bool.and_eq_true, decide_eq_true_eq]
  exact ⟨by show (-9223372036854775808 : Int) ≤ _; omega, hs⟩
 unfold Amw Ir
 rw [h0, cond_true]
 cases decide ((g.1.1.size : Int) > 100) <;> try exact rfl
 cases decide (((Ak g.1).length : Int) > 20) <;> try exact rfl
 cases decide (((Bt g.1).length : Int) > 300) <;> try exact rfl
 cases decide (((A4 g).length : Int) > 5) <;> cases decide (((A4 g).length : Int) ≤ 8) <;> cases decide (((A4 g).length : Int) > 12) <;> cases decide (((msT s).length : Int) > 12) <;> exact rfl
theorem Amx {g : TCT cGr} {s : TCT cSt} (h : Ir g s = false) : (msT s).length ≤ 1000 ∧ (osT s).length ≤ 1000 := by
 have key : decide (((msT s).length : Int) > 12) = false ∧ decide (((osT s).length : Int) > 12) = false := by
  unfold Ir at h
  revert h
  cases decide ((g.1.1.size : Int) > 100) <;> try (intro h; cases h; done)
  cases decide (((Ak g.1).length : Int) > 20) <;> try (intro h; cases h; done)
  cases decide (((Bt g.1).length : Int) > 300) <;> try (intro h; cases h; done)
  cases decide (((A4 g).length : Int) > 5) <;> cases decide (((A4 g).length : Int) ≤ 8) <;> cases decide (((A4 g).length : Int) > 12) <;> cases decide (((msT s).length : Int) > 12) <;> intro h <;> first | (cases h; done) | exact ⟨rfl, h⟩
 have a := of_decide_eq_false key.1
 have b := of_decide_eq_false key.2
 exact ⟨by omega, by omega⟩
theorem Au0 : A7 Tryz.prog 14 Atz := B2 (Ad Ab A9 (fns_cons is_br A2)) 7 (fun x => Amw x.1 x.2.1) (fun x => by kernel_rfl) fun x hok _ => B1a (of_decide_eq_true hok)
abbrev Zs : Type := TCT cGr → TCT cSt → TCT cBw → TkR
abbrev Vn : Type := TCT cGr → TCT cSt → TkR
abbrev Le : Type := TCT cGr → TCT cSt → SKTs kPt
abbrev Vo : Type := Nat → Int → List Bool
abbrev Vp : Type := Io.T → Option (Ae ⊕ Int)
abbrev A5m : Type := TCT cGr → TCT cSt → Bool
abbrev Au1 (F : Zs) : PureT := B4 [cGr, cSt, cBw] [cSt, .sl cKn, cI] (fun x => decide ((x.1.1.1.size : Int) ≤ As .i64)) (fun x => A1j (F x.1 x.2.1 x.2.2.1))
abbrev Au2 (F : Vn) : PureT := B4 [cGr, cSt] [cSt, .sl cKn, cI] (fun x => decide ((x.1.1.1.size : Int) ≤ As .i64)) (fun x => A1j (F x.1 x.2.1))
abbrev Au3 (V : Le) : PureT := B4 [cGr, cSt] [cPt, cI] (fun x => decide ((x.1.1.1.size : Int) ≤ As .i64)) (fun x => (((V x.1 x.2.1).1, (V x.1 x.2.1).2.1, ()), Dy x.1 x.2.1, ()))
abbrev Au4 (A : Vo) : PureT := B4 [cSt, cI] [.sl .b] (fun x => decide ((osT x.1).length ≤ 1000)) (fun x => (A (osT x.1).length x.2.1, ()))
abbrev Au5 (G : A5m) : PureT := B4 [cGr, cSt] [.b] (fun x => decide ((x.1.1.1.size : Int) ≤ As .i64)) (fun x => (G x.1 x.2.1, ()))
noncomputable def B6d (F : Zs) (U : Vn) (V : Le) (A : Vo) (G : A5m) : List (Nat × PureT) := (15, A1m) :: (16, Au1 F) :: (21, Au2 U) :: (23, Au3 V) :: (24, Axl) :: (25, Au4 A) :: (14, Au5 G) :: (26, A4o) :: []
theorem B9p : Bu Tryz.prog (B6d skV He Im Pv Ir) := A0 is_bm.plain A58 (A0 is_bq.plain Afj (A0 is_bg.plain Acq (A0 is_a4.plain Aka (A0 is_bz.plain B64 (A0 is_bA.plain B69 (A0 is_br.plain Au0 (A0 is_a0.plain A4p A9)))))))
noncomputable def B1b : St → Tree (XE × St) := or2 16 4 (Ac (M0 4) (Ip 4) (C3 [.ret, .exit 0] (I2 4) (N9 4))) (Ac (M0 32) (Ip 32) (C3 [.ret, .exit 0] (I2 32) (N9 32)))
noncomputable def B1c : St → Tree (XE × St) := or2 16 4 (Ac (M1 4) (Iq 4) (C3 [.exit 2] (I3 4) (Na 4))) (Ac (M1 32) (Iq 32) (C3 [.exit 2] (I3 32) (Na 32)))
def A5n (a b : SKTs kPt) : Bool := a.1 == b.1 && (a.2.1 == b.2.1 && true)
noncomputable def Amy (V : Le) (g : SKTs kGr) (u : SKTs kSt) (p : SKTs kPt) : Tree Unit := szT (lwG g) (bif Dy (Af1 g) u == 0 then bif A5n (V (Af1 g) u) p then lfU else .fail else .fail)
noncomputable def B6e (V : Le) (n : Nat) (y : Option (A1 (Iq n))) : Tree Unit := bif isE (.exit 2) y then Amy V (C0 (.exit 2) y).2.1 (C0 (.exit 2) y).2.2.1 (C0 (.exit 2) y).2.2.2.1 else .fail
noncomputable def A5o (V : Le) (n : Nat) (g : SKTs kGr) (u : SKTs kSt) (z : SKTs kSo) : Tree Unit := B6e V n (iter (I3 n) ((z.1 : Ae).length + 1) (Px n ⟨g, u, z⟩ 0 p0))
noncomputable def Amz (V : Le) (W : Vp) (n : Nat) (g : SKTs kGr) (s u : SKTs kSt) : Tree Unit := szT (lwG g) (bif Dy (Af1 g) s != 0 then .fail else thL (W ((Af1 g, s, ()), ())) [] (fun _ => A5o V n g u ([], [], 0, 0, 0, ())) (fun ms => A5o V n g u (ms, s.2.1, s.2.2.1, s.2.2.2.1, s.2.2.2.2.1, ())) [4])
noncomputable def Axm (V : Le) (W : Vp) (n : Nat) (y : Option (A1 (Ip n))) : Tree Unit := bif isE .ret y then bif (C0 .ret y).1.1 then lfU else .fail else bif isE (.exit 0) y then Amz V W n (C0 (.exit 0) y).2.1 (C0 (.exit 0) y).2.2.1 (C0 (.exit 0) y).2.2.2.1 else .fail
noncomputable def Zt (U : Vn) (V : Le) (W : Vp) (n : Nat) (g : TCT cGr) (s : TCT cSt) : Tree Unit := szT g.1 (bif (U g s).2.2.1 != 0 then bif (((U g s).2.1 : Kns).length : Int) == 0 then lfU else .fail else Axm V W n (iter (I2 n) (((U g s).2.1 : Kns).length + 1) (Pw n ⟨Ee g, s, (U g s).1, (U g s).2.1⟩ 0)))
def alT {β : Type} (s : TCT cSt) (k : Tree β) : Tree β := bif decide ((msT s).length ≤ 1000) then bif decide ((osT s).length ≤ 1000) then k else .fail else .fail
def B1d (A : Vo) (s : TCT cSt) (b : Int) : TCT cSt := (msT s, A (osT s).length b, 0, 0, 0, ())
noncomputable def An0 (k : Int) (V1 V2 : SKTs kPt) (ks : Kns) (z : Int) (c : Tree Unit) : Tree Unit := bif z != 0 then .fail else bif (ks.length : Int) == 0 then bif !A5n V1 V2 then .fail else c else bif k == 0 then bif !A5n V1 V2 then .fail else c else bif k == 4 then bif !A5n V1 V2 then .fail else c else c
noncomputable def Axn (F : Zs) (U : Vn) (V : Le) (W : Vp) (A : Vo) (g : TCT cGr) (s : TCT cSt) (w : TCT cBw) : Tree Unit := szT g.1 (alT s (szT g.1 (bif Dy g (Y8 (F g s w).1) != 0 then .fail else bif (F g (B1d A s w.1) (wAl w)).2.2.1 != 0 then .fail else szT g.1 (
 An0 w.2.2.2.1 (V g (Y8 (F g s w).1)) (V g (Y8 (F g (B1d A s w.1) (wAl w)).1)) (F g s w).2.1 (Dy g (Y8 (F g (B1d A s w.1) (wAl w)).1)) (Zt U V W 32 g (Y8 (F g s w).1))))))
noncomputable def Au6 (F : Zs) (U : Vn) (V : Le) (W : Vp) (A : Vo) (G : A5m) (g : TCT cGr) (s : TCT cSt) (w : TCT cBw) : Tree Unit := szT g.1 (bif G g s then lfU else szT g.1 (bif (F g s w).2.2.1 == 0 then Axn F U V W A g s w else Zt U V W 4 g s))
end St
open St
abbrev cs_strokeMomentum : List TC := [cGr, cSt, cBw]
noncomputable def J9 (F : Zs) (U : Vn) (V : Le) (W : Vp) (A : Vo) (G : A5m) : Ctx := S7 Tryz.prog (B6d F U V A G) [(5, Tryz.f5)] [((5, 17), B1b), ((5, 26), B1c)] [(27, B5q W)]
noncomputable def X_strokeMomentum : Ctx := J9 skV He Im Nz Pv Ir
theorem X_strokeMomentum_ok : CtxOk X_strokeMomentum := Fj Ab B9p (fns_cons is_by A2) (E4 (fun d hd f hf => by
  have hl : A8 (bodyOf Tryz.f5) = [A1q, A1r] := by kernel_rfl
  have h17 : keyOf A1q = 17 := by kernel_rfl
  have h26 : keyOf A1r = 26 := by kernel_rfl
  rw [hl, List.mem_cons, List.mem_singleton] at hd
  rcases hd with rfl | rfl
  ·rw [h17] at hf
   exact Option.some.inj hf ▸ Ad9 B16 B17
  ·rw [h26] at hf
   exact Option.some.inj hf ▸ Ad9 B18 B19) Ia) (fun p hp => by
 rw [List.mem_singleton] at hp
 subst hp
 exact ⟨is_bs.plain, B5r⟩)
theorem Au7 (F : Zs) (U : Vn) (V : Le) (W : Vp) (A : Vo) (G : A5m) (y : TCTs cs_strokeMomentum) : Ch (J9 F U V W A G) 8 (.fn 5) (Co cs_strokeMomentum y) Bl 0 Abe = Au6 F U V W A G y.1 y.2.1 y.2.2.1 := by kernel_rfl
end V
end Go.Proofs.YtkiaifmbbnnliaaGreat
