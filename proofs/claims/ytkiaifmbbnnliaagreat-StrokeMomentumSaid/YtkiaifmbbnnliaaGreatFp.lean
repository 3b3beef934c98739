import Derived.Test.YtkiaifmbbnnliaaGreatFo
namespace Go.Proofs.YtkiaifmbbnnliaaGreat
open Go.RowKit
namespace V
namespace St
noncomputable def A1q : Code := (A8 (bodyOf Tryz.f5)).getD 0 .skip
noncomputable def A1r : Code := (A8 (bodyOf Tryz.f5)).getD 1 .skip
abbrev B6a : List (Nat × PureT) := [(15, A1m)]
theorem B9o : Bu Tryz.prog B6a := A0 is_bm.plain A58 A9
noncomputable def B14 : Ctx := ctx Tryz.prog B6a []
theorem N8 : CtxOk B14 := Ad Ab B9o A2
abbrev bsM (u : Nat) : List BK := [(0, 34, kGr), (1, 38, kSt), (u, 38, kSt)]
def M0 (u : Nat) : Lay := { keys := [3, 4, 8, 16, 17], ks := [.p 0 0 0 0, .p 1 0 0 0, .d (.sl cKn), .p u 0 0 0, .d cI], bs := bsM u, n := 184, nx := 1000, marks := [] }
def B6b (u : Nat) : Lay := { keys := [3, 4, 16], ks := [.p 0 0 0 0, .p 1 0 0 0, .p u 0 0 0], bs := bsM u, n := 184, nx := 1000, marks := [] }
def B15 : Lay := { keys := [6], ks := [.d .b], bs := [], n := 184, nx := 1000, marks := [] }
def Ip (u : Nat) : XE → Lay := fun e => match e with | .ret => B15 | _ => B6b u
structure QM where
 g : SKTs kGr
 s : SKTs kSt
 u : SKTs kSt
 k : Kns
def Pw (u : Nat) (q : QM) (i : Int) : (M0 u).T := (((), (), q.k, (), i, ()), (q.g, q.s, q.u, ()))
def A1s (u : Nat) (q : QM) : A1 (Ip u) := ⟨.exit 0, (((), (), (), ()), (q.g, q.s, q.u, ()))⟩
def A1t (u : Nat) : A1 (Ip u) := ⟨.ret, ((true, ()), ())⟩
def sm1 (u : Nat) (q : QM) (i : Int) : Tree ((M0 u).T ⊕ A1 (Ip u)) := bif decide (i < (q.k.length : Int)) then inN q.k.length i (bif (kAt q.k i).2.2.1 != 0 then .leaf (.inr (A1t u)) else .leaf (.inl (Pw u q (W64 (i + 1))))) else .leaf (.inr (A1s u q))
def I2 (u : Nat) (x : (M0 u).T) : Tree ((M0 u).T ⊕ A1 (Ip u)) := sm1 u ⟨x.2.1, x.2.2.1, x.2.2.2.1, x.1.2.2.1⟩ x.1.2.2.2.2.1
def N9 (u : Nat) (x : (M0 u).T) : Nat := (x.1.2.2.1 : Kns).length + 1
theorem B16 : Aj Tryz.prog 5 A1q (Ac (M0 4) (Ip 4) (C3 [.ret, .exit 0] (I2 4) (N9 4))) := Ay N8 7 _ (M0 4) (Ip 4) (fun e => by cases e <;> exact Nat.le_refl _) [.ret, .exit 0] (I2 4) (N9 4) (fun g => by kernel_rfl)
theorem B17 : Aj Tryz.prog 5 A1q (Ac (M0 32) (Ip 32) (C3 [.ret, .exit 0] (I2 32) (N9 32))) := Ay N8 7 _ (M0 32) (Ip 32) (fun e => by cases e <;> exact Nat.le_refl _) [.ret, .exit 0] (I2 32) (N9 32) (fun g => by kernel_rfl)
abbrev bsN (u : Nat) : List BK := [(0, 34, kGr), (u, 38, kSt), (2003, 24, kPt)]
def M1 (u : Nat) : Lay := { keys := [3, 16, 18, 20, 21], ks := [.p 0 0 0 0, .p u 0 0 0, .p 2002 0 0 0, .p 2003 0 0 0, .d cI], bs := (2002, 38, kSo) :: bsN u, n := 184, nx := 3000, marks := [] }
def B6c (u : Nat) : Lay := { keys := [3, 16, 20], ks := [.p 0 0 0 0, .p u 0 0 0, .p 2003 0 0 0], bs := bsN u, n := 184, nx := 3000, marks := [] }
def Iq (u : Nat) : XE → Lay := fun _ => B6c u
structure QN where
 g : SKTs kGr
 u : SKTs kSt
 z : SKTs kSo
def Px (u : Nat) (q : QN) (i : Int) (p : SKTs kPt) : (M1 u).T := (((), (), (), (), i, ()), (q.z, q.g, q.u, p, ()))
def A1u (u : Nat) (q : QN) (p : SKTs kPt) : A1 (Iq u) := ⟨.exit 2, (((), (), (), ()), (q.g, q.u, p, ()))⟩
def msZ (q : QN) : Ae := q.z.1
def sm2 (u : Nat) (q : QN) (i : Int) (p : SKTs kPt) : Tree ((M1 u).T ⊕ A1 (Iq u)) := bif decide (i < ((msZ q).length : Int)) then inO (msZ q).length i (inO (msZ q).length i (.leaf (.inl (Px u q (W64 (i + 1)) (A90 p (Ag (msZ q) (Int.toNat i))))))) else .leaf (.inr (A1u u q p))
def I3 (u : Nat) (x : (M1 u).T) : Tree ((M1 u).T ⊕ A1 (Iq u)) := sm2 u ⟨x.2.2.1, x.2.2.2.1, x.2.1⟩ x.1.2.2.2.2.1 x.2.2.2.2.1
def Na (u : Nat) (x : (M1 u).T) : Nat := (x.2.1.1 : Ae).length + 1
theorem B18 : Aj Tryz.prog 5 A1r (Ac (M1 4) (Iq 4) (C3 [.exit 2] (I3 4) (Na 4))) := Ay N8 7 _ (M1 4) (Iq 4) (fun e => by cases e <;> exact Nat.le_refl _) [.exit 2] (I3 4) (Na 4) (fun g => by kernel_rfl)
theorem B19 : Aj Tryz.prog 5 A1r (Ac (M1 32) (Iq 32) (C3 [.exit 2] (I3 32) (Na 32))) := Ay N8 7 _ (M1 32) (Iq 32) (fun e => by cases e <;> exact Nat.le_refl _) [.exit 2] (I3 32) (Na 32) (fun g => by kernel_rfl)
def isU (u : Nat) : AV → Bool
 | .ptr i _ _ _ => Nat.beq i u
 | _ => false
def or2 (t u : Nat) (f1 f2 : St → Tree (XE × St)) (s : St) : Tree (XE × St) := bif isU u (s.tm t) then f1 s else f2 s
theorem Ad9 {P : Program} {fn : FuncId} {c : Code} {t u : Nat} {f1 f2 : St → Tree (XE × St)} (h1 : Aj P fn c f1) (h2 : Aj P fn c f2) : Aj P fn c (or2 t u f1 f2) := fun w0 σ s a w R hS h => by
 unfold or2 at h
 cases e : isU u (s.tm t) with
 | true => rw [e] at h; exact h1 w0 σ s a w R hS h
 | false => rw [e] at h; exact h2 w0 σ s a w R hS h
end St
end V
end Go.Proofs.YtkiaifmbbnnliaaGreat
