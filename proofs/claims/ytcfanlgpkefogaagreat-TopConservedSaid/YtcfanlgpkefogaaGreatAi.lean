import Derived.Test.YtcfanlgpkefogaaGreatAh
namespace Go.Proofs.YtcfanlgpkefogaaGreat
open Go.RowKit
namespace V
namespace Tp
open St
theorem Cch : Bak Bsa = [By8, By9] := by kernel_rfl
theorem C8x : keyOf By8 = 18 := by kernel_rfl
theorem C8y : keyOf By9 = 29 := by kernel_rfl
theorem key_tc0 : keyOf Bsa = 15 := by kernel_rfl
theorem Cgh : Bak (bodyOf Tryz.f3) = [Bsa, By8, By9] := by kernel_rfl
theorem D1o : Baz Tryz.prog 3 Bsa (Bav Bma Bqi (Bcn [.ret, .exit 0] (Bj8 TickV totR) C5k)) :=
 Bp6 Cox 7 _ Cv6 (fun d hd f hf => by
  rw [Cch, List.mem_cons, List.mem_singleton] at hd
  rcases hd with rfl | rfl
  ·rw [C8x] at hf
   exact Option.some.inj (show some _ = some f from hf) ▸ D1i
  ·rw [C8y] at hf
   exact Option.some.inj (show some _ = some f from hf) ▸ D1j) Bma Bqi (fun e => by cases e <;> exact Nat.le_refl _) [.ret, .exit 0] (Bj8 TickV totR) C5k (Cgg TickV totR)
def Cci : Tree Unit := .leaf ()
def D1p (U : FTk) (V : FTt) (y : Option (Fp Bqi)) : Tree Unit := bif isE .ret y then bif (Bc4 .ret y).1.1 then Cci else .fail else bif isE (.exit 0) y then Cci else .fail
def C0q (n : Nat) : List Bool := Bb7 (List.replicate (Int.toNat (n : Int)) false) (Int.toNat 0) true
def Cgi (U : FTk) (V : FTt) (l : List (TCT Bd6)) (tk : Int) (g : TCT cGr) (s t : TCT cSt) (ks : Kns) (sm : SKTs kPt) : Tree Unit :=
 bif decide (0 ≤ (l.length : Int) ∧ (l.length : Int) ≤ (l.length : Int) ∧ (l.length : Int) ≤ 65536 ∧ ((1 : Nat) : Int) * (l.length : Int) ≤ 281474976710656) then inO (List.replicate (Int.toNat (l.length : Int)) false).length 0 (D1p U V (iter (Bj8 U V) 40 (Bki ⟨l, tk, Bd7 g, s, t, ks, sm, C0q l.length⟩ 0))) else .fail
def Cv7 (U : FTk) (V : FTt) (l : List (TCT Bd6)) (tk : Int) (g : TCT cGr) (s : TCT cSt) (r : TkR) : Tree Unit :=
 bif r.2.2.1 != 0 then bif r.2.2.1 == 4 then Cci else .fail else szT g.1 (bif Be4 g (St.etaS r.1) != 0 then .fail else Cgi U V l tk g s r.1 r.2.1 (V g (St.etaS r.1)))
def Cgj (F : FSk) (U : FTk) (V : FTt) (l : List (TCT Bd6)) (tk : Int) (g : TCT cGr) (s : TCT cSt) (b : Bool) (w : TCT cBl) : Tree Unit :=
 bif !b then Cci else szT g.1 (Cv7 U V l tk g s (F g s w))
def Coy (G : FGn) (S : FSs) (B : FBb) (W : FBl) (F : FSk) (U : FTk) (V : FTt) (l : List (TCT Bd6)) (w : TCT Bm7) (r tk : Int) : Tree Unit :=
 bif (l.length : Int) == 0 then Cci else bif decide ((l.length : Int) > 4) then Cci else bif decide (l.length ≤ 1000) then Cgj F U V l tk (Cv0 (G 0 0 (Int.tmod (W64 r) 951, 0, ()) l)) (St.etaS (S 0 0 (Int.tmod (W64 r) 951, 0, ()) l)) (B 0 0 (Int.tmod (W64 r) 951, 0, ()) l) (Cv1 (W w 0)) else .fail
end Tp
open Tp
abbrev cs_topConserved : List TC := [.sl Bd6, Bm7, .i .u16, .i .u8]
noncomputable def Bk1 (G : FGn) (S : FSs) (B : FBb) (W : FBl) (F : FSk) (U : FTk) (V : FTt) : Ctx := Bgo Tryz.prog (plTc G S B W F U V) [(3, Tryz.f3)] [((3, 15), Bav Bma Bqi (Bcn [.ret, .exit 0] (Bj8 U V) C5k))]
noncomputable def X_topConserved : Ctx := Bk1 Bhr Bk0 Bkh Bfh St.skV St.TickV St.totR
theorem X_topConserved_ok : CtxOk X_topConserved := Bc8 Ban puTc (fns_cons is_TopConserved Fq) (St.loops_in (fun d hd hk => by
 rw [Cgh, List.mem_cons, List.mem_cons, List.mem_singleton] at hd
 rcases hd with rfl | rfl | rfl
 ·rfl
 ·rw [C8x] at hk; cases hk
 ·rw [C8y] at hk; cases hk) D1o)
theorem Coz (G : FGn) (S : FSs) (B : FBb) (W : FBl) (F : FSk) (U : FTk) (V : FTt) (y : TCTs cs_topConserved) : Bcv (Bk1 G S B W F U V) 10 (.fn 3) (Bde cs_topConserved y) Bbv 0 C8j = Coy G S B W F U V y.1 y.2.1 y.2.2.1 y.2.2.2.1 := by kernel_rfl
end V
end Go.Proofs.YtcfanlgpkefogaaGreat
