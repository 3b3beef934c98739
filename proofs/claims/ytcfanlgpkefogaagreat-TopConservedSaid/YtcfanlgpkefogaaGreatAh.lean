import Derived.Test.YtcfanlgpkefogaaGreatAg
import Derived.Test.YtcfanlgpkefogaaGreatNd
namespace Go.Proofs.YtcfanlgpkefogaaGreat
open Go.RowKit
namespace V
namespace Tp
open St
theorem is_TopConserved : FnIs Tryz.prog (3, Tryz.f3) := ⟨Tryz.func3, by kernel_rfl, by kernel_rfl⟩
noncomputable def plTc (G : FGn) (S : FSs) (B : FBb) (W : FBl) (F : FSk) (U : FTk) (V : FTt) : List (Nat × PureT) := (10, Cgb G S B) :: (12, Cgc W) :: (11, D1f F) :: (14, Cv2 U) :: (13, Cv3 V) :: (9, Brn) :: []
theorem puTc : Bc7 Tryz.prog (plTc Bhr Bk0 Bkh Bfh skV TickV totR) := puOk_cons is_set.plain Cx0 (puOk_cons is_blow.plain Cx1 (puOk_cons is_sStrike.plain Cdc (puOk_cons is_sTick.plain Cad (puOk_cons is_sTotal.plain C24 (puOk_cons is_works05.plain Bpc puOk_nil)))))
abbrev cU8 : TC := .i .u8
abbrev Cov : List BK := [(1, 41, kGr), (2, 45, kSt), (12, 45, kSt), (16, 31, kPt)]
def Bma : Lay := { keys := [0, 3, 9, 10, 12, 13, 15, 16, 17], ks := [.d (.sl Bd6), .d cU8, .p 1 0 0 0, .p 2 0 0 0, .p 12 0 0 0, .d (.sl cKn), .p 16 0 0 0, .o 4 .b, .d cI], bs := Cov, n := 201, nx := 1000, marks := [] }
def Bqg : Lay := { keys := [0, 3, 9, 10, 12, 13, 15, 16, 17, 18], ks := [.d (.sl Bd6), .d cU8, .p 1 0 0 0, .p 2 0 0 0, .p 12 0 0 0, .d (.sl cKn), .p 16 0 0 0, .o 4 .b, .d cI, .d cI], bs := Cov, n := 201, nx := 3000, marks := [] }
def Bqh : Lay := { keys := [0, 3, 9, 10, 12, 15, 16, 17, 21], ks := [.d (.sl Bd6), .d cU8, .p 1 0 0 0, .p 2 0 0 0, .p 12 0 0 0, .p 16 0 0 0, .o 4 .b, .d cI, .d cI], bs := Cov, n := 201, nx := 5000, marks := [] }
def Cv4 (nx : Nat) : Lay := { keys := [0, 3, 9, 10, 12, 15, 16, 17], ks := [.d (.sl Bd6), .d cU8, .p 1 0 0 0, .p 2 0 0 0, .p 12 0 0 0, .p 16 0 0 0, .o 4 .b, .d cI], bs := Cov, n := 201, nx := nx, marks := [] }
def Cgd (nx : Nat) : Lay := { keys := [8], ks := [.d .b], bs := [], n := 201, nx := nx, marks := [] }
def D1g : Lay := { keys := [], ks := [], bs := [], n := 201, nx := 1000, marks := [] }
def Bqi : XE → Lay := fun e => match e with | .ret => Cgd 1000 | _ => D1g
def Bnl : XE → Lay := fun e => match e with | .ret => Cgd 3000 | _ => Cv4 3000
def Bnm : XE → Lay := fun e => match e with | .ret => Cgd 5000 | _ => Cv4 5000
noncomputable def Bsa : Code := (Bak (bodyOf Tryz.f3)).getD 0 .skip
noncomputable def By8 : Code := (Bak (bodyOf Tryz.f3)).getD 1 .skip
noncomputable def By9 : Code := (Bak (bodyOf Tryz.f3)).getD 2 .skip
noncomputable def plW5 : List (Nat × PureT) := [(9, Brn)]
theorem puW5 : Bc7 Tryz.prog plW5 := puOk_cons is_works05.plain Bpc puOk_nil
noncomputable def D1h : Ctx := ctx Tryz.prog plW5 []
theorem C0o : CtxOk D1h := Bap Ban puW5 Fq
structure QTc where
 l : List (TCT Bd6)
 tk : Int
 g : SKTs kGr
 s : SKTs kSt
 t : SKTs kSt
 ks : Kns
 sum : SKTs kPt
 hit : List Bool
def Bki (q : QTc) (i : Int) : Bma.T := ((q.l, q.tk, (), (), (), q.ks, (), q.hit, i, ()), (q.g, q.s, q.t, q.sum, ()))
def Bya (q : QTc) (i k : Int) : Bqg.T := ((q.l, q.tk, (), (), (), q.ks, (), q.hit, i, k, ()), (q.g, q.s, q.t, q.sum, ()))
def Bpd (q : QTc) (i k : Int) : Bqh.T := ((q.l, q.tk, (), (), (), (), q.hit, i, k, ()), (q.g, q.s, q.t, q.sum, ()))
def Byb (q : QTc) (i : Int) : Fp Bnl := ⟨.exit 2, ((q.l, q.tk, (), (), (), (), q.hit, i, ()), (q.g, q.s, q.t, q.sum, ()))⟩
def C5g (q : QTc) (i : Int) : Fp Bnm := ⟨.exit 4, ((q.l, q.tk, (), (), (), (), q.hit, i, ()), (q.g, q.s, q.t, q.sum, ()))⟩
def Bkj (b : Bool) : Fp Bnl := ⟨.ret, ((b, ()), ())⟩
def Cx2 (b : Bool) : Fp Bnm := ⟨.ret, ((b, ()), ())⟩
def Bj7 (b : Bool) : Fp Bqi := ⟨.ret, ((b, ()), ())⟩
def C5h : Fp Bqi := ⟨.exit 0, ((), ())⟩
def knT (q : QTc) (k : Int) : TCT cKn := Bat q.ks (Int.toNat k) (Bar cKn)
def Bmn (q : QTc) (i k : Int) : Tree (Bqg.T ⊕ Fp Bnl) := bif decide (k < (q.ks.length : Int)) then inN q.ks.length k (bif (knT q k).2.2.1 != 0 then .leaf (.inr (Bkj true)) else
 inN q.ks.length k (bif decide ((knT q k).2.2.2.1 < 0) then .leaf (.inr (Bkj false)) else inN q.ks.length k (bif decide ((knT q k).2.2.2.1 ≥ (q.l.length : Int)) then .leaf (.inr (Bkj false)) else
 inN q.ks.length k (bif decide ((knT q k).2.2.2.2.1 < 0) then .leaf (.inr (Bkj false)) else inN q.ks.length k (bif decide ((knT q k).2.2.2.2.1 ≥ (q.l.length : Int)) then .leaf (.inr (Bkj false)) else
 inN q.ks.length k (inN q.ks.length k (inO q.hit.length (knT q k).2.2.2.1 (inO (Bb7 q.hit (Int.toNat (knT q k).2.2.2.1) true).length (knT q k).2.2.2.2.1 (.leaf (.inl (Bya { q with hit := Bri q.hit (knT q k) } i (W64 (k + 1))))))))))))) else .leaf (.inr (Byb q i))
def Bpe (x : Bqg.T) : Tree (Bqg.T ⊕ Fp Bnl) := Bmn ⟨x.1.1, x.1.2.1, x.2.1, x.2.2.1, x.2.2.2.1, x.1.2.2.2.2.2.1, x.2.2.2.2.1, x.1.2.2.2.2.2.2.2.1⟩ x.1.2.2.2.2.2.2.2.2.1 x.1.2.2.2.2.2.2.2.2.2.1
def C5i (x : Bqg.T) : Nat := (x.1.2.2.2.2.2.1 : Kns).length + 1
theorem D1i : Baz Tryz.prog 3 By8 (Bav Bqg Bnl (Bcn [.ret, .exit 2] Bpe C5i)) := Bbc C0o 7 _ Bqg Bnl (fun e => by cases e <;> exact Nat.le_refl _) [.ret, .exit 2] Bpe C5i (fun g => by kernel_rfl)
def Cow (a b : TCT Bau) : Bool := (a.1.1 == b.1.1 && (a.1.2.1 == b.1.2.1 && true)) && ((a.2.1.1 == b.2.1.1 && (a.2.1.2.1 == b.2.1.2.1 && true)) && ((a.2.2.1.1 == b.2.2.1.1 && (a.2.2.1.2.1 == b.2.2.1.2.1 && true)) && true))
def moT (s : SKTs kSt) (k : Int) : TCT Bau := Bat (s.1 : Bam) (Int.toNat k) (Bar Bau)
def Bsb (q : QTc) (i k : Int) : Tree (Bqh.T ⊕ Fp Bnm) := bif decide (k < (q.l.length : Int)) then inO q.hit.length k (bif !Bat q.hit (Int.toNat k) (Bar .b) then inN (q.t.1 : Bam).length k (inN (q.s.1 : Bam).length k (bif !Cow (moT q.t k) (moT q.s k) then .leaf (.inr (Cx2 false)) else .leaf (.inl (Bpd q i (W64 (k + 1)))))) else .leaf (.inl (Bpd q i (W64 (k + 1))))) else .leaf (.inr (C5g q i))
def Bmo (x : Bqh.T) : Tree (Bqh.T ⊕ Fp Bnm) := Bsb ⟨x.1.1, x.1.2.1, x.2.1, x.2.2.1, x.2.2.2.1, [], x.2.2.2.2.1, x.1.2.2.2.2.2.2.1⟩ x.1.2.2.2.2.2.2.2.1 x.1.2.2.2.2.2.2.2.2.1
def C5j (x : Bqh.T) : Nat := (x.1.1 : List (TCT Bd6)).length + 1
theorem D1j : Baz Tryz.prog 3 By9 (Bav Bqh Bnm (Bcn [.ret, .exit 4] Bmo C5j)) := Bbc C0o 7 _ Bqh Bnm (fun e => by cases e <;> exact Nat.le_refl _) [.ret, .exit 4] Bmo C5j (fun g => by kernel_rfl)
def C8w (a b : SKTs kPt) : Bool := a.1 == b.1 && (a.2.1 == b.2.1 && true)
abbrev Byc := Tree (Bma.T ⊕ Fp Bqi)
def Cge (q : QTc) (i : Int) (r : TkR) : Byc := bif r.2.2.1 != 0 then bif r.2.2.1 == 4 then .leaf (.inr (Bj7 true)) else .leaf (.inr (Bj7 false)) else .leaf (.inl (Bki { q with t := r.1, ks := r.2.1 } (W64 (i + 1))))
def D1k (U : FTk) (q : QTc) (i : Int) : Byc := szT (lwG q.g) (Cge q i (U (Ccy q.g) q.t))
def D1l (v : (Bnm (.exit 4)).T) : QTc := ⟨v.1.1, v.1.2.1, v.2.1, v.2.2.1, v.2.2.2.1, [], v.2.2.2.2.1, v.1.2.2.2.2.2.2.1⟩
def Cv5 (U : FTk) (y : Option (Fp Bnm)) : Byc := bif isE .ret y then .leaf (.inr (Bj7 (Bc4 .ret y).1.1)) else bif isE (.exit 4) y then D1k U (D1l (Bc4 (.exit 4) y)) (Bc4 (.exit 4) y).1.2.2.2.2.2.2.2.1 else .fail
def C0p (U : FTk) (V : FTt) (q : QTc) (i : Int) : Byc := szT (lwG q.g) (bif Be4 (Ccy q.g) q.t != 0 then .leaf (.inr (Bj7 false)) else bif !C8w (V (Ccy q.g) q.t) q.sum then .leaf (.inr (Bj7 false)) else bif ((q.t.1 : Bam).length : Int) != (q.l.length : Int) then .leaf (.inr (Bj7 false)) else
 Cv5 U (iter Bmo (q.l.length + 1) (Bpd q i 0)))
def D1m (v : (Bnl (.exit 2)).T) : QTc := ⟨v.1.1, v.1.2.1, v.2.1, v.2.2.1, v.2.2.2.1, [], v.2.2.2.2.1, v.1.2.2.2.2.2.2.1⟩
def D1n (U : FTk) (V : FTt) (y : Option (Fp Bnl)) : Byc := bif isE .ret y then .leaf (.inr (Bj7 (Bc4 .ret y).1.1)) else bif isE (.exit 2) y then C0p U V (D1m (Bc4 (.exit 2) y)) (Bc4 (.exit 2) y).1.2.2.2.2.2.2.2.1 else .fail
def Bpf (U : FTk) (V : FTt) (q : QTc) (i : Int) : Byc := bif decide (i ≤ Int.tmod (W64 q.tk) 31) then D1n U V (iter Bpe (q.ks.length + 1) (Bya q i 0)) else .leaf (.inr C5h)
def Bj8 (U : FTk) (V : FTt) (x : Bma.T) : Byc := Bpf U V ⟨x.1.1, x.1.2.1, x.2.1, x.2.2.1, x.2.2.2.1, x.1.2.2.2.2.2.1, x.2.2.2.2.1, x.1.2.2.2.2.2.2.2.1⟩ x.1.2.2.2.2.2.2.2.2.1
def C5k (_ : Bma.T) : Nat := 40
noncomputable def plTu (U : FTk) (V : FTt) : List (Nat × PureT) := [(14, Cv2 U), (13, Cv3 V), (9, Brn)]
theorem puTu : Bc7 Tryz.prog (plTu TickV totR) := puOk_cons is_sTick.plain Cad (puOk_cons is_sTotal.plain C24 (puOk_cons is_works05.plain Bpc puOk_nil))
noncomputable def Cgf (U : FTk) (V : FTt) : Ctx := ctx Tryz.prog (plTu U V) []
theorem Cox : CtxOk (Cgf TickV totR) := Bap Ban puTu Fq
noncomputable def Cv6 : Bi2 := Bbx [((3, 18), Bav Bqg Bnl (Bcn [.ret, .exit 2] Bpe C5i)), ((3, 29), Bav Bqh Bnm (Bcn [.ret, .exit 4] Bmo C5j))] 3
theorem Cgg (U : FTk) (V : FTt) (g : Bma.T) : evC (Cgf U V).P (Bcv (Cgf U V) 7) (Cgf U V).pures 3 (Cgf U V).u Cv6 Bsa (Bma.of g) (Bev Bma Bqi) = Bj8 U V g := by kernel_rfl
end Tp
end V
end Go.Proofs.YtcfanlgpkefogaaGreat
