import Derived.Test.YtkiaifmbbnnliaaGreatDa
import Derived.Test.YtkiaifmbbnnliaaGreatEr
namespace Go.Proofs.YtkiaifmbbnnliaaGreat
open Go.RowKit
namespace V
namespace St
theorem is_bM : FnIs Tryz.prog (86, Tryz.f86) := ⟨Tryz.func86, by kernel_rfl, by kernel_rfl⟩
noncomputable def Arb : Code := (A8 (bodyOf Tryz.f86)).getD 0 .skip
def Zg : Lay := { keys := [2, 3, 4, 5, 8, 12, 13, 14], ks := [.d cI, .d cI, .p 0 0 0 0, .p 1 0 0 0, .p 2 0 0 0, kKn, .o 24 cPt, .d cI], bs := [(0, 34, kGr), (1, 38, kSo), (2, 38, kSo)], n := 68, nx := 1000, marks := [] }
def Bi9 : Lay := { keys := [5, 8, 12, 13], ks := [.p 1 0 0 0, .p 2 0 0 0, kKn, .o 24 cPt], bs := [(1, 38, kSo), (2, 38, kSo)], n := 68, nx := 1000, marks := [] }
def Bec : Lay := { keys := [8, 9, 10, 11], ks := [.p 2 0 0 0, kKn, .o 24 cPt, .d cI], bs := [(2, 38, kSo)], n := 68, nx := 1000, marks := [] }
def A31 : XE → Lay := fun e => match e with | .ret => Bec | _ => Bi9
abbrev YG : Type := TCT cGr → SKTs kSo → Option (S2 ⊕ Int)
noncomputable def Ag9 (Y : YG) : Ctx := Kj Tryz.prog Ay9 [] [] [(69, Bdx Y)]
theorem Arc : CtxOk (Ag9 Kr) := D8 Ab B78 A2 G5 (fun p hp => by
 rw [List.mem_singleton] at hp; subst hp; exact ⟨is_bx.plain, B77⟩)
abbrev QR4 : Type := Int × Int × SKTs kGr × SKTs kSo
def Q4 (q : QR4) (s : SKTs kSo) (o : Kns) (t : Fh) (i : Int) : Zg.T := ((q.1, q.2.1, (), (), (), o, t, i, ()), (q.2.2.1, s, q.2.2.2, ()))
def Ard (q : QR4) (s : SKTs kSo) (o : Kns) (t : Fh) : A1 A31 := ⟨.exit 0, (((), (), o, t, ()), (s, q.2.2.2, ()))⟩
def A0x (e : Int) : A1 A31 := ⟨.ret, (((), [], [], e, ()), (([], [], 0, 0, 0, ()), ()))⟩
abbrev TR4 := Tree (Zg.T ⊕ A1 A31)
def Are (a b : Kns) (k : TR4) : TR4 := bif Ex a b 40 then k else .fail
def B7s (a : Fh) (p : TCT cPt) (k : TR4) : TR4 := bif Ex a [p] 16 then k else .fail
def B7t (ms : Af) (b : Int) (k : TR4) : TR4 := inN ms.length b (bif decide (Int.toNat b < ms.length) then k else .fail)
def Aj2 (ms : Af) (b : Int) : TCT cPt := ((Ai ms (Int.toNat b)).1.1, (Ai ms (Int.toNat b)).1.2.1, ())
def nxR (s : SKTs kSo) (r : S2) : SKTs kSo := (r.1, r.2.1, s.2.2.1, flR s.2.2.2.1, W64 (s.2.2.2.2.1 + 1), ())
def M6 (Y : YG) (q : QR4) (s : SKTs kSo) (o : Kns) (t : Fh) (i : Int) : TR4 := bif decide (i < q.2.1) then bif !C0 s then bif isL (Y (Ot q.2.2.1) s) then
  Are o (gL z2 (Y (Ot q.2.2.1) s)).2.2 (B7t (gL z2 (Y (Ot q.2.2.1) s)).1 q.1 (B7s t (Aj2 (gL z2 (Y (Ot q.2.2.1) s)).1 q.1) (bif decide (((o ++ (gL z2 (Y (Ot q.2.2.1) s)).2.2).length : Int) > 4096) then .leaf (.inr (A0x 6)) else .leaf (.inl (Q4 q (nxR s (gL z2 (Y (Ot q.2.2.1) s))) (o ++ (gL z2 (Y (Ot q.2.2.1) s)).2.2) (t ++ [Aj2 (gL z2 (Y (Ot q.2.2.1) s)).1 q.1]) (W64 (i + 1)))))))
  else bif isR (Y (Ot q.2.2.1) s) then bif gR 0 (Y (Ot q.2.2.1) s) != 0 then .leaf (.inr (A0x (gR 0 (Y (Ot q.2.2.1) s)))) else Are o [] (bif decide (0 ≤ q.1 ∧ q.1 < (([] : Af).length : Int)) then .fail else .fail) else .fail
  else .leaf (.inr (Ard q s o t)) else .leaf (.inr (Ard q s o t))
def Wh (Y : YG) (g : Zg.T) : TR4 := M6 Y (g.1.1, g.1.2.1, g.2.1, g.2.2.2.1) g.2.2.1 g.1.2.2.2.2.2.1 g.1.2.2.2.2.2.2.1 g.1.2.2.2.2.2.2.2.1
def Arf (g : Zg.T) : Nat := Int.toNat g.1.2.1 + 1
theorem Bia (Y : YG) (g : Zg.T) : evC Tryz.prog (C4 (Ag9 Y) 7) (Ag9 Y).pures 86 (Ag9 Y).u (fun _ => none) Arb (Zg.of g) (F4 Zg A31) = Wh Y g := by kernel_rfl
theorem Bib : Ae Tryz.prog 86 Arb (A9 Zg A31 (Bu [.ret, .exit 0] (Wh Kr) Arf)) := Aw Arc 7 _ Zg A31 (fun e => by cases e <;> exact Nat.le_refl _) [.ret, .exit 0] (Wh Kr) Arf (Bia Kr)
end St
end V
end Go.Proofs.YtkiaifmbbnnliaaGreat
