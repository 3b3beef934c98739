import Derived.Test.YtcfanlgpkefogaaGreatAd
namespace Go.Proofs.YtcfanlgpkefogaaGreat
open Go.RowKit
namespace V
namespace Tp
open St
theorem is_green : FnIs Tryz.prog (26, Tryz.f26) := ⟨Tryz.func26, by kernel_rfl, by kernel_rfl⟩
theorem is_round : FnIs Tryz.prog (16, Tryz.f16) := ⟨Tryz.func16, by kernel_rfl, by kernel_rfl⟩
theorem is_spot : FnIs Tryz.prog (22, Tryz.f22) := ⟨Tryz.func22, by kernel_rfl, by kernel_rfl⟩
theorem is_blow : FnIs Tryz.prog (12, Tryz.f12) := ⟨Tryz.func12, by kernel_rfl, by kernel_rfl⟩
theorem is_set : FnIs Tryz.prog (10, Tryz.f10) := ⟨Tryz.func10, by kernel_rfl, by kernel_rfl⟩
abbrev D1c : TC := .i .u16
abbrev Bd6 : TC := .st [D1c, D1c]
def Cuv : TCT Bbj := (50000, 40000, 6000, 500, false, ())
def Cuw : TCT Bbj := (30000, 100000, 6200, 500, true, ())
def D5i : TCT Baf := ((50000, 100000, ()), 1200, ())
def nameG : ByteArray := ⟨#[103, 114, 101, 101, 110]⟩
def grn (d s : Int) : TCT Bao := (nameG, 100000, 200000, 5000, [Cuv, Cuw], D5i, 1, 1, [(d, s, 0, ())], ())
abbrev C8t : PureT := Bbb [cI, cI] [Bao] (fun _ => true) (fun x => (grn x.1 x.2.1, ()))
theorem Cor : Bai Tryz.prog 26 C8t := Bbd (Bap Ban puOk_nil (fns_cons is_green Fq)) 5 (fun x => .leaf (grn x.1 x.2.1, ())) (fun x => by kernel_rfl) fun _ _ _ => Bal rfl
def Bp9 : TCT No := (450, 2946, ())
abbrev C8u : PureT := Bbb [] [No] (fun _ => true) (fun _ => (Bp9, ()))
theorem Cos : Bai Tryz.prog 16 C8u := Bbd (Bap Ban puOk_nil (fns_cons is_round Fq)) 5 (fun x => .leaf (Bp9, ())) (fun x => by kernel_rfl) fun _ _ _ => Bal rfl
def spt (d : TCT Bd6) : TCT cPt := (W64 (Int.tdiv (W64 (W64 d.1 * 3)) 2), W64 (W64 d.2.1 * 3), ())
abbrev Cg0 : PureT := Bbb [Bd6] [cPt] (fun _ => true) (fun x => (spt x.1, ()))
theorem Cws : Bai Tryz.prog 22 Cg0 := Bbd (Bap Ban puOk_nil (fns_cons is_spot Fq)) 5 (fun x => .leaf (spt x.1, ())) (fun x => by kernel_rfl) fun _ _ _ => Bal rfl
end Tp
end V
end Go.Proofs.YtcfanlgpkefogaaGreat
namespace Go.Proofs.YtcfanlgpkefogaaGreat
open Go.RowKit
namespace V
namespace Tp
open St
abbrev kGb : List SK := [.d .s, .d cI, .d cI, .d cI, .d (.sl Bbj), .d cI, .d cI, .d cI, .d cI, .d cI, .d (.sl Bc3), .o 70 No, .d cI, .d cI]
noncomputable def Cwt : Code := (Bak (bodyOf Tryz.f10)).getD 0 .skip
def Cux : List BK := [(1, 41, kGr), (2, 45, kSt), (8, 41, kGb)]
def Bnk : Lay := { keys := [2, 8, 9, 11, 12, 13, 14], ks := [.d (.sl Bd6), .p 1 0 0 0, .p 2 0 0 0, .p 8 0 0 0, .o 31 cPt, .o 33 Baf, .d cI], bs := Cux, n := 97, nx := 1000, marks := [] }
def D1d : Lay := { keys := [2, 8, 9, 11, 12], ks := [.d (.sl Bd6), .p 1 0 0 0, .p 2 0 0 0, .p 8 0 0 0, .o 31 cPt], bs := Cux, n := 97, nx := 1000, marks := [] }
def Cwu : Lay := { keys := [8, 9, 10], ks := [.p 1 0 0 0, .p 2 0 0 0, .d .b], bs := [(1, 41, kGb), (2, 45, kSt)], n := 97, nx := 1000, marks := [] }
def Bkf : XE → Lay := fun e => match e with | .ret => Cwu | _ => D1d
def plSet5 : List (Nat × PureT) := (41, Cuu) :: (26, C8t) :: (16, C8u) :: (22, Cg0) :: (28, Cvk) :: []
theorem puSet5 : Bc7 Tryz.prog plSet5 := puOk_cons is_May.plain D1b (puOk_cons is_green.plain Cor (puOk_cons is_round.plain Cos (puOk_cons is_spot.plain Cws (puOk_cons is_sLie.plain D35 puOk_nil))))
noncomputable def Cwv : Ctx := ctx Tryz.prog plSet5 []
theorem Ccg : CtxOk Cwv := Bap Ban puSet5 Fq
abbrev GbT : Type := SKTs kGb
def lwb (g : GbT) : TCT Bao := (g.1, g.2.1, g.2.2.1, g.2.2.2.1, g.2.2.2.2.1, ((g.2.2.2.2.2.1, g.2.2.2.2.2.2.1, ()), g.2.2.2.2.2.2.2.1, ()), g.2.2.2.2.2.2.2.2.1, g.2.2.2.2.2.2.2.2.2.1, g.2.2.2.2.2.2.2.2.2.2.1, ())
def blb (g : GbT) : List (TCT No) := g.2.2.2.2.2.2.2.2.2.2.2.1
def wbl (g : GbT) (b : List (TCT No)) : GbT := (g.1, g.2.1, g.2.2.1, g.2.2.2.1, g.2.2.2.2.1, g.2.2.2.2.2.1, g.2.2.2.2.2.2.1, g.2.2.2.2.2.2.2.1, g.2.2.2.2.2.2.2.2.1, g.2.2.2.2.2.2.2.2.2.1, g.2.2.2.2.2.2.2.2.2.2.1, b, g.2.2.2.2.2.2.2.2.2.2.2.2.1, g.2.2.2.2.2.2.2.2.2.2.2.2.2.1, ())
structure QSt where
 l : List (TCT Bd6)
 g0 : SKTs kGr
 s0 : SKTs kSt
def Bkg (p : TCT cPt) : TCT Baf := ((p.1, p.2.1, ()), 2946, ())
def By6 (q : QSt) (g : GbT) (i : Int) (ps : List (TCT cPt)) (os : List (TCT Baf)) : Bnk.T := ((q.l, (), (), (), ps, os, i, ()), (q.g0, q.s0, g, ()))
def By7 (q : QSt) (g : GbT) (ps : List (TCT cPt)) : Fp Bkf := ⟨.exit 0, ((q.l, (), (), (), ps, ()), (q.g0, q.s0, g, ()))⟩
def C5d (g : GbT) : Fp Bkf := ⟨.ret, (((), (), false, ()), (g, ([], [], 0, 0, 0, ()), ()))⟩
def C5e (q : QSt) (g : GbT) (i : Int) (ps : List (TCT cPt)) (os : List (TCT Baf)) (p : TCT cPt) : Tree (Bnk.T ⊕ Fp Bkf) :=
 bif C5b (lwb g) p 2946 os != 0 then .leaf (.inr (C5d g)) else bif !C5c (lwb g) p 2946 os then .leaf (.inr (C5d g)) else
 bif Bd8 (blb g) [Bp9] 16 then bif Bd8 ps [p] 16 then bif Bd8 os [Bkg p] 24 then .leaf (.inl (By6 q (wbl g (blb g ++ [Bp9])) (W64 (i + 1)) (ps ++ [p]) (os ++ [Bkg p]))) else .fail else .fail else .fail
def Bs7 (q : QSt) (g : GbT) (i : Int) (ps : List (TCT cPt)) (os : List (TCT Baf)) : Tree (Bnk.T ⊕ Fp Bkf) :=
 bif decide (i < (q.l.length : Int)) then inN q.l.length i (szT (lwb g) (C5e q g i ps os (spt (Bat q.l (Int.toNat i) (Bar Bd6))))) else .leaf (.inr (By7 q g ps))
def Bpa (x : Bnk.T) : Tree (Bnk.T ⊕ Fp Bkf) := Bs7 ⟨x.1.1, x.2.1, x.2.2.1⟩ x.2.2.2.1 x.1.2.2.2.2.2.2.1 x.1.2.2.2.2.1 x.1.2.2.2.2.2.1
def C5f (x : Bnk.T) : Nat := (x.1.1 : List (TCT Bd6)).length + 1
theorem D1e : Baz Tryz.prog 10 Cwt (Bav Bnk Bkf (Bcn [.ret, .exit 0] Bpa C5f)) := Bbc Ccg 7 _ Bnk Bkf (fun e => by cases e <;> exact Nat.le_refl _) [.ret, .exit 0] Bpa C5f (fun g => by kernel_rfl)
def setF (w : TCT Bao) (l : List (TCT Bd6)) (i : Nat) (ps : List (TCT cPt)) : List (TCT cPt) ⊕ List (TCT cPt) :=
 bif C5b w (spt (Bat l i (Bar Bd6))) 2946 (ps.map Bkg) != 0 then .inr ps else bif !C5c w (spt (Bat l i (Bar Bd6))) 2946 (ps.map Bkg) then .inr ps else .inl (ps ++ [spt (Bat l i (Bar Bd6))])
def gbN (g : GbT) (n : Nat) : GbT := wbl g (List.replicate n Bp9)
def Bs8 (q : QSt) (g : GbT) : List (TCT cPt) ⊕ List (TCT cPt) → Fp Bkf
 | .inl ps => By7 q (gbN g ps.length) ps
 | .inr ps => C5d (gbN g ps.length)
theorem Cww {q : QSt} {g : GbT} (hl : q.l.length ≤ 1000) (hs : ((lwb g).1.size : Int) ≤ Bb2 .i64) : iter Bpa (q.l.length + 1) (By6 q (gbN g 0) 0 [] []) = some (Bs8 q g (Baw (setF (lwb g) q.l) 0 q.l.length [])) := by
 have key := Bf9 (st := Bpa) q.l.length (fun i ps => By6 q (gbN g i) (i : Int) ps (ps.map Bkg)) (setF (lwb g) q.l) (Bs8 q g) (fun i ps => ps.length = i)
  (fun i ps hi hI => by
   show (Bs7 q (gbN g i) (i : Int) ps (ps.map Bkg)).run = _
   unfold Bs7 inN
   rw [decide_eq_true (show (i : Int) < (q.l.length : Int) by omega), decide_eq_true (show 0 ≤ (i : Int) ∧ (i : Int) < (q.l.length : Int) by omega), show Int.toNat (i : Int) = i by omega]
   show (szT (lwb g) (C5e q (gbN g i) (i : Int) ps (ps.map Bkg) (spt (Bat q.l i (Bar Bd6)))) : Tree _).run = _
   rw [Bco hs]
   unfold C5e setF
   rw [show lwb (gbN g i) = lwb g from rfl]
   generalize spt (Bat q.l i (Bar Bd6)) = p
   cases C5b (lwb g) p 2946 (ps.map Bkg) != 0 with
   | true => simp only [cond_true, Cj1, Bs8, hI]; rfl
   | false =>
    cases !C5c (lwb g) p 2946 (ps.map Bkg) with
    | true => simp only [cond_true, cond_false, Cj1, Bs8, hI]; rfl
    | false =>
     rw [Bba (n := (i : Int) + 1) (by omega) (by omega)]
     have e1 : Bd8 (blb (gbN g i)) [Bp9] 16 = true := by
      rw [Be0]; exact decide_eq_true (by show (((List.replicate i Bp9).length + [Bp9].length : Nat) : Int) * 16 ≤ _; rw [List.length_replicate]; simp only [List.length_singleton]; omega)
     have e2 : Bd8 ps [p] 16 = true := by rw [Be0]; exact decide_eq_true (by simp only [List.length_singleton]; omega)
     have e3 : Bd8 (ps.map Bkg) [Bkg p] 24 = true := by rw [Be0]; exact decide_eq_true (by simp only [List.length_singleton, List.length_map]; omega)
     have e4 : wbl (gbN g i) (blb (gbN g i) ++ [Bp9]) = gbN g (i + 1) := by
      show wbl g (List.replicate i Bp9 ++ [Bp9]) = wbl g (List.replicate (i + 1) Bp9)
      rw [List.replicate_succ']
     have e5 : ps.map Bkg ++ [Bkg p] = (ps ++ [p]).map Bkg := by rw [List.map_append]; rfl
     rw [e1, e2, e3, e4, e5]
     rfl)
  (fun i ps ps' _ hI h => by
   unfold setF at h
   cases h1 : C5b (lwb g) (spt (Bat q.l i (Bar Bd6))) 2946 (ps.map Bkg) != 0 with
   | true => rw [h1] at h; cases h
   | false =>
    cases h2 : !C5c (lwb g) (spt (Bat q.l i (Bar Bd6))) 2946 (ps.map Bkg) with
    | true => rw [h1, h2] at h; cases h
    | false =>
     rw [h1, h2] at h
     cases h
     rw [List.length_append, List.length_singleton, hI])
  (fun ps hI => by
   show (Bs7 q (gbN g q.l.length) (q.l.length : Int) ps (ps.map Bkg)).run = _
   unfold Bs7
   rw [decide_eq_false (show ¬ (q.l.length : Int) < (q.l.length : Int) by omega)]
   show some (Sum.inr (By7 q (gbN g q.l.length) ps)) = some (Sum.inr (By7 q (gbN g ps.length) ps))
   rw [hI]) q.l.length 0 [] (by omega) rfl
 exact key
noncomputable def Cg1 : Ctx := Bgo Tryz.prog plSet5 [(10, Tryz.f10)] [((10, 5), Bav Bnk Bkf (Bcn [.ret, .exit 0] Bpa C5f))]
theorem Cg2 : CtxOk Cg1 := Bc8 Ban puSet5 (fns_cons is_set Fq) (Bbt (by kernel_rfl) (by kernel_rfl) D1e)
def gb0 (d s : Int) (x : TCT Bbw) : GbT := (nameG, 100000, 200000, 5000, [Cuv, Cuw], 50000, 100000, 1200, 1, 1, [(d, s, 0, ())], [], x.1, x.2.1, ())
def g00 : SKTs kGr := (⟨#[]⟩, 0, 0, 0, [], 0, 0, 0, 0, 0, [], [], 0, 0, ())
def s00 : SKTs kSt := ([], [], 0, 0, 0, ())
def C8v (d s : Int) (l : List (TCT Bd6)) (x : TCT Bbw) : Option (Fp Bkf) := iter Bpa (l.length + 1) (By6 ⟨l, g00, s00⟩ (gb0 d s x) 0 [] [])
abbrev Cot := Tree (TCTs [cGr, cSt, .b])
def grb (g : GbT) : TCT cGr := (lwb g, blb g, (g.2.2.2.2.2.2.2.2.2.2.2.2.1, g.2.2.2.2.2.2.2.2.2.2.2.2.2.1, ()), ())
def Cg3 (l : List (TCT Bd6)) (r : TCTs [cSt, cI]) : Bool := r.2.1 == 0 && (((msT r.1).length : Int) == (l.length : Int) && ((osT r.1).length : Int) == (l.length : Int))
def Cg4 (l : List (TCT Bd6)) (g : GbT) (r : TCTs [cSt, cI]) : Cot := bif r.2.1 == 0 then bif ((msT r.1).length : Int) == (l.length : Int) then .leaf (grb g, St.etaS r.1, ((osT r.1).length : Int) == (l.length : Int), ()) else .leaf (grb g, St.etaS r.1, false, ()) else .leaf (grb g, St.etaS r.1, false, ())
def Cg5 (g : GbT) (l : List (TCT Bd6)) (ps : List (TCT cPt)) : Cot := szT (lwb g) (Cg4 l g (Bf6 (grb g) ps))
def Cg6 (y : Option (Fp Bkf)) : Cot := bif isE .ret y then .leaf (grb (Bc4 .ret y).2.1, (Bc4 .ret y).2.2.1, (Bc4 .ret y).1.2.2.1, ()) else bif isE (.exit 0) y then Cg5 (Bc4 (.exit 0) y).2.2.2.1 (Bc4 (.exit 0) y).1.1 (Bc4 (.exit 0) y).1.2.2.2.2.1 else .fail
theorem Cg7 (x : TCTs [cI, cI, .sl Bd6, Bbw]) : Bcv Cg1 7 (.fn 10) (Bde [cI, cI, .sl Bd6, Bbw] x) Bbv 0 (Bgq Cg1.P [cGr, cSt, .b]) = Cg6 (C8v x.1 x.2.1 x.2.2.1 x.2.2.2.1) := by kernel_rfl
def gN (d s : Int) (x : TCT Bbw) (n : Nat) : TCT cGr := (grn d s, List.replicate n Bp9, (x.1, x.2.1, ()), ())
abbrev Cou : Type := List (TCT cPt) ⊕ List (TCT cPt)
def Bpb (d s : Int) (l : List (TCT Bd6)) : Cou := Baw (setF (grn d s) l) 0 l.length []
def sN : Cou → Nat
 | .inl p => p.length
 | .inr p => p.length
def sS (d s : Int) (x : TCT Bbw) : Cou → TCT cSt
 | .inl p => St.etaS (Bf6 (gN d s x p.length) p).1
 | .inr _ => zS
def sB (d s : Int) (x : TCT Bbw) (l : List (TCT Bd6)) : Cou → Bool
 | .inl p => Cg3 l (Bf6 (gN d s x p.length) p)
 | .inr _ => false
abbrev Cuy : PureT := Bbb [cI, cI, .sl Bd6, Bbw] [cGr, cSt, .b] (fun x => decide (x.2.2.1.length ≤ 1000)) (fun x => (gN x.1 x.2.1 x.2.2.2.1 (sN (Bpb x.1 x.2.1 x.2.2.1)), sS x.1 x.2.1 x.2.2.2.1 (Bpb x.1 x.2.1 x.2.2.1), sB x.1 x.2.1 x.2.2.2.1 x.2.2.1 (Bpb x.1 x.2.1 x.2.2.1), ()))
theorem Bs9 (d s : Int) : ((grn d s).1.size : Int) ≤ Bb2 .i64 := by
 show ((nameG.size : Nat) : Int) ≤ _
 decide
theorem Cg8 {d s : Int} {l : List (TCT Bd6)} {x : TCT Bbw} (hl : l.length ≤ 1000) : (Cg6 (C8v d s l x)).sat (fun y => y = (gN d s x (sN (Bpb d s l)), sS d s x (Bpb d s l), sB d s x l (Bpb d s l), ())) := by
 have e : C8v d s l x = some (Bs8 ⟨l, g00, s00⟩ (gb0 d s x) (Bpb d s l)) := Cww (q := ⟨l, g00, s00⟩) (g := gb0 d s x) hl (Bs9 d s)
 rw [e]
 cases Bpb d s l with
 | inr ps => exact Bal rfl
 | inl ps =>
  show (Cg5 (gbN (gb0 d s x) ps.length) l ps).sat _
  unfold Cg5
  rw [Bco (show (((lwb (gbN (gb0 d s x) ps.length)).1.size : Nat) : Int) ≤ _ from Bs9 d s)]
  show (Cg4 l (gbN (gb0 d s x) ps.length) (Bf6 (gN d s x ps.length) ps)).sat _
  unfold Cg4
  show (bif (Bf6 (gN d s x ps.length) ps).2.1 == 0 then bif ((msT (Bf6 (gN d s x ps.length) ps).1).length : Int) == (l.length : Int) then .leaf (gN d s x ps.length, St.etaS (Bf6 (gN d s x ps.length) ps).1, ((osT (Bf6 (gN d s x ps.length) ps).1).length : Int) == (l.length : Int), ()) else .leaf (gN d s x ps.length, St.etaS (Bf6 (gN d s x ps.length) ps).1, false, ()) else .leaf (gN d s x ps.length, St.etaS (Bf6 (gN d s x ps.length) ps).1, false, ()) : Cot).sat (fun y => y = (gN d s x ps.length, St.etaS (Bf6 (gN d s x ps.length) ps).1, Cg3 l (Bf6 (gN d s x ps.length) ps), ()))
  unfold Cg3
  cases (Bf6 (gN d s x ps.length) ps).2.1 == 0 <;> cases ((msT (Bf6 (gN d s x ps.length) ps).1).length : Int) == (l.length : Int) <;> exact Bal rfl
theorem Cuz : Bai Tryz.prog 10 Cuy := Bbd Cg2 7 (fun x => Cg6 (C8v x.1 x.2.1 x.2.2.1 x.2.2.2.1)) Cg7 fun x hok _ => Cg8 (of_decide_eq_true hok)
end Tp
end V
end Go.Proofs.YtcfanlgpkefogaaGreat
namespace Go.Proofs.YtcfanlgpkefogaaGreat
open Go.RowKit
namespace V
namespace Tp
open St
theorem is_works05 : FnIs Tryz.prog (9, Tryz.f9) := ⟨Tryz.func9, by kernel_rfl, by kernel_rfl⟩
abbrev Brn : PureT := Bbb [] [.b] (fun _ => true) (fun _ => (true, ()))
noncomputable def plWk : List (Nat × PureT) := [(43, Bhz), (10, Cuy), (75, Bqm)]
theorem puWk : Bc7 Tryz.prog plWk := puOk_cons Bhf.plain Bjg (puOk_cons is_set.plain Cuz (puOk_cons is_lCheck.plain Bnw puOk_nil))
theorem Bpc : Bai Tryz.prog 9 Brn := C8d (Bp5 (u := 20) Ban puWk Cqq) 40 (fun _ => by kernel_rfl)
abbrev Bm7 : TC := .st [.i .i16, .i .i16, .i .u32, .i .u8]
def Bfh (w : TCT Bm7) (b : Int) : TCT cBl := (b, (W64 w.1, (bif W64 w.1 == 0 && (W64 w.2.1 == 0 && true) then 1 else W64 w.2.1), ()), W64 (1 + Int.tmod (W64 w.2.2.1) 2097152), Int.tmod (W64 w.2.2.2.1) 5, ())
abbrev Cwx : PureT := Bbb [Bm7, cI] [cBl] (fun _ => true) (fun x => (Bfh x.1 x.2.1, ()))
def Cg9 (w : TCT Bm7) (b : Int) : Tree (TCTs [cBl]) := bif W64 w.1 == 0 && (W64 w.2.1 == 0 && true) then .leaf ((b, (W64 w.1, 1, ()), W64 (1 + Int.tmod (W64 w.2.2.1) 2097152), Int.tmod (W64 w.2.2.2.1) 5, ()), ()) else .leaf ((b, (W64 w.1, W64 w.2.1, ()), W64 (1 + Int.tmod (W64 w.2.2.1) 2097152), Int.tmod (W64 w.2.2.2.1) 5, ()), ())
theorem Cga (w : TCT Bm7) (b : Int) : (Cg9 w b).sat (fun y => y = (Bfh w b, ())) := by
 unfold Cg9 Bfh
 cases W64 w.1 == 0 && (W64 w.2.1 == 0 && true) <;> exact Bal rfl
theorem Cwy : Bai Tryz.prog 12 Cwx := Bbd (Bap Ban puOk_nil (fns_cons is_blow Fq)) 5 (fun x => Cg9 x.1 x.2.1) (fun x => by kernel_rfl) fun x _ _ => Cga _ _
def Cv0 (g : TCT cGr) : TCT cGr := Ccy (Bd7 g)
abbrev FGn : Type := Int → Int → TCT Bbw → List (TCT Bd6) → TCT cGr
abbrev FSs : Type := Int → Int → TCT Bbw → List (TCT Bd6) → TCT cSt
abbrev FBb : Type := Int → Int → TCT Bbw → List (TCT Bd6) → Bool
abbrev FBl : Type := TCT Bm7 → Int → TCT cBl
abbrev FSk : Type := TCT cGr → TCT cSt → TCT cBl → TkR
abbrev FTk : Type := TCT cGr → TCT cSt → TkR
abbrev FTt : Type := TCT cGr → TCT cSt → SKTs kPt
abbrev Cwz (g : TCT cGr) : Bool := decide ((g.1.1.size : Int) ≤ Bb2 .i64)
def Cv1 (b : TCT cBl) : TCT cBl := (b.1, (b.2.1.1, b.2.1.2.1, ()), b.2.2.1, b.2.2.2.1, ())
abbrev Cgb (G : FGn) (S : FSs) (B : FBb) : PureT := Bbb [cI, cI, .sl Bd6, Bbw] [cGr, cSt, .b] (fun x => decide (x.2.2.1.length ≤ 1000)) (fun x => (Cv0 (G x.1 x.2.1 x.2.2.2.1 x.2.2.1), St.etaS (S x.1 x.2.1 x.2.2.2.1 x.2.2.1), B x.1 x.2.1 x.2.2.2.1 x.2.2.1, ()))
abbrev Cgc (W : FBl) : PureT := Bbb [Bm7, cI] [cBl] (fun _ => true) (fun x => (Cv1 (W x.1 x.2.1), ()))
abbrev D1f (F : FSk) : PureT := Bbb [cGr, cSt, cBl] [cSt, .sl cKn, cI] (fun x => Cwz x.1) (fun x => C2l (F x.1 x.2.1 x.2.2.1))
abbrev Cv2 (F : FTk) : PureT := Bbb [cGr, cSt] [cSt, .sl cKn, cI] (fun x => Cwz x.1) (fun x => C2l (F x.1 x.2.1))
abbrev Cv3 (V : FTt) : PureT := Bbb [cGr, cSt] [cPt, cI] (fun x => Cwz x.1) (fun x => (((V x.1 x.2.1).1, (V x.1 x.2.1).2.1, ()), Be4 x.1 x.2.1, ()))
def Bhr : FGn := fun d s x l => gN d s x (sN (Bpb d s l))
def Bk0 : FSs := fun d s x l => sS d s x (Bpb d s l)
def Bkh : FBb := fun d s x l => sB d s x l (Bpb d s l)
theorem Cx0 : Bai Tryz.prog 10 (Cgb Bhr Bk0 Bkh) := Cuz
theorem Cx1 : Bai Tryz.prog 12 (Cgc Bfh) := Cwy
end Tp
end V
end Go.Proofs.YtcfanlgpkefogaaGreat
