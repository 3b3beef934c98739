import Derived.Test.YtcfanlgpkefogaaGreatBA
namespace Go.Proofs.YtcfanlgpkefogaaGreat
open Go.RowKit
namespace V
namespace St
noncomputable def D38 : Code := (Bak (bodyOf Tryz.f13)).getD 0 .skip
abbrev kPt : List SK := [.d cI, .d cI]
def C23 : Lay := { keys := [4, 17, 18, 19], ks := [.p 2 0 0 0, .d (.sl Bau), .d cI, .d cI], bs := [(2, 31, kPt)], n := 39, nx := 1000, marks := [] }
def D6q : Lay := { keys := [4], ks := [.p 2 0 0 0], bs := [(2, 31, kPt)], n := 39, nx := 1000, marks := [] }
def Byx : XE → Lay := fun _ => D6q
def Cj9 (m : List (TCT Bau)) (n i : Int) (p : SKTs kPt) : C23.T := (((), m, n, i, ()), (p, ()))
def Cja (p : SKTs kPt) : Fp Byx := ⟨.exit 0, (((), ()), (p, ()))⟩
def Cjb (p : SKTs kPt) (m : TCT Bau) : SKTs kPt := (W64 (p.1 + m.2.1.1), W64 (p.2.1 + m.2.1.2.1), ())
def Bss (m : List (TCT Bau)) (n i : Int) (p : SKTs kPt) : Tree (C23.T ⊕ Fp Byx) := bif decide (i < n) then inN m.length i (.leaf (.inl (Cj9 m n (W64 (i + 1)) (Cjb p (Bat m (Int.toNat i) (Bar Bau)))))) else .leaf (.inr (Cja p))
def C9v (g : C23.T) : Tree (C23.T ⊕ Fp Byx) := Bss g.1.2.1 g.1.2.2.1 g.1.2.2.2.1 g.2.1
def Cjc (g : C23.T) : Nat := (g.1.2.1 : List (TCT Bau)).length + 1
theorem D6r : Baz Tryz.prog 13 D38 (Bav C23 Byx (Bcn [.exit 0] C9v Cjc)) := Bbc (Bap Ban puS1 Fq) 7 _ C23 Byx (fun e => by cases e <;> exact Nat.le_refl _) [.exit 0] C9v Cjc (fun g => by kernel_rfl)
def C6c (m : List (TCT Bau)) (i : Nat) (p : SKTs kPt) : SKTs kPt ⊕ Unit := .inl (Cjb p (Bat m i (Bar Bau)))
def p0 : SKTs kPt := (0, 0, ())
def gP : SKTs kPt ⊕ Unit → SKTs kPt
 | .inl p => p
 | .inr _ => p0
def Cy6 (r : SKTs kPt ⊕ Unit) : Fp Byx := Cja (gP r)
def Bsu (m : List (TCT Bau)) : SKTs kPt := gP (Baw (C6c m) 0 m.length p0)
def D39 (s : TCT cSt) : Option (Fp Byx) := iter C9v ((msT s).length + 1) (Cj9 s.1 (msT s).length 0 p0)
theorem Cqr {s : TCT cSt} (hm : ((msT s).length : Int) ≤ Bb2 .i64) : D39 s = some (Cja (Bsu (msT s))) := by
 refine Bf9 (msT s).length (fun i p => Cj9 s.1 (msT s).length i p) (C6c (msT s)) Cy6 (fun _ _ => True) (fun i p hi _ => ?_) (fun _ _ _ _ _ _ => trivial) (fun p _ => ?_) (msT s).length 0 p0 (by omega) trivial
 ·show (Bss (msT s) (msT s).length (i : Int) p).run = _
  unfold Bss C6c
  rw [decide_eq_true (show (i : Int) < ((msT s).length : Int) by omega), Bdb (by omega), show Int.toNat (i : Int) = i from rfl, Bct hi hm]
  rfl
 ·show (Bss (msT s) (msT s).length ((msT s).length : Int) p).run = _
  unfold Bss
  rw [decide_eq_false (show ¬ ((msT s).length : Int) < ((msT s).length : Int) by omega)]
  rfl
abbrev TPe := Tree (TCTs [cPt, cI])
def lfP (p : SKTs kPt) (e : Int) : TPe := .leaf ((p.1, p.2.1, ()), e, ())
def D6s (y : Option (Fp Byx)) : TPe := bif isE (.exit 0) y then lfP (Bc4 (.exit 0) y).2.1 0 else .fail
def totR (g : TCT cGr) (s : TCT cSt) : SKTs kPt := bif Be4 g s != 0 then p0 else Bsu (msT s)
abbrev D3a : PureT := Bbb [cGr, cSt] [cPt, cI] (fun x => decide ((x.1.1.1.size : Int) ≤ Bb2 .i64)) (fun x => (((totR x.1 x.2.1).1, (totR x.1 x.2.1).2.1, ()), Be4 x.1 x.2.1, ()))
theorem Cqs {g : TCT cGr} {s : TCT cSt} {k : TPe} (h : k = lfP (Bsu (msT s)) 0) : (bif Be4 g s != 0 then lfP p0 (Be4 g s) else k).sat (fun y => y = (((totR g s).1, (totR g s).2.1, ()), Be4 g s, ())) := by
 unfold totR
 cases hs : Be4 g s != 0 with
 | true => exact rfl
 | false =>
  have := bne_eq_false_iff_eq.1 hs
  simp only [cond_false]
  rw [this, h]
  exact rfl
noncomputable def D6t : Ctx := Bgo Tryz.prog plS4 [(13, Tryz.f13)] [((13, 5), Bav C23 Byx (Bcn [.exit 0] C9v Cjc))]
theorem Cqt : CtxOk D6t := Bc8 Ban puS4 (fns_cons is_sTotal Fq) (Bbt (by kernel_rfl) (by kernel_rfl) D6r)
theorem C24 : Bai Tryz.prog 13 D3a := Bbd Cqt 7 (fun x => szT x.1.1 (bif Be4 x.1 x.2.1 != 0 then lfP p0 (Be4 x.1 x.2.1) else D6s (D39 x.2.1))) (fun x => by kernel_rfl) fun x hok hw => by
 rw [Bco (of_decide_eq_true hok)]
 refine Cqs ?_
 rw [Cqr (Beb hw.2.1.1)]
 rfl
end St
end V
end Go.Proofs.YtcfanlgpkefogaaGreat
namespace Go.Proofs.YtcfanlgpkefogaaGreat
open Go.RowKit
namespace V
def isL {A B : Type} : Option (A ⊕ B) → Bool
 | some (.inl _) => true
 | _ => false
def isR {A B : Type} : Option (A ⊕ B) → Bool
 | some (.inr _) => true
 | _ => false
def gL {A B : Type} (d : A) : Option (A ⊕ B) → A
 | some (.inl a) => a
 | _ => d
def gR {A B : Type} (d : B) : Option (A ⊕ B) → B
 | some (.inr b) => b
 | _ => d
def FLay.dfl (F : FLay) : F.T := (dflKs F.ks, D14 F.bs)
theorem Bsv {α : Type} {t : Tree α} {R S : α → Prop} (h : t.sat R) (k : ∀ x, R x → S x) : t.sat S := by
 induction t with
 | leaf a => exact k a h
 | need p t ih => exact ⟨h.1, ih h.2⟩
 | br c t e i1 i2 => exact ⟨fun x => i1 (h.1 x), fun x => i2 (h.2 x)⟩
 | fail => exact h
def Cy7 {L : FLay} {E : Bool → FLay} (c : L.T → Bool) (r : L.T → (E true).T) (g : L.T) : Tree (Bcw E) := .br (c g) (.leaf ⟨true, r g⟩) .fail
theorem Byy {X : Ctx} (hX : CtxOk X) {f : FuncId} (m : Nat) {probe : Baj → List AV → Option (List Nat)} {L : FLay} {E : Bool → FLay} (hE : ∀ b, L.nx ≤ (E b).nx) (c : L.T → Bool) (r : L.T → (E true).T) (T : L.T → Tree (Bcw E))
  (he : ∀ g, Bn3 X (Bcv X m) f (ofKs L.ks g.1 L.nx) (L.lay.hp g) (L.lay.of g).nx (Bv5 E) = T g)
  (h : ∀ g, L.lay.WF g → c g = true → (T g).run = some ⟨true, r g⟩) : Bbn X.P f (Bi9 probe L E (Cy7 c r)) :=
 C4k hX m hE fun g R hw hf => by
  rw [he]
  cases hc : c g with
  | false => exact (hf.2 hc).elim
  | true => exact Bsv (Tree.sat_run (h g hw hc) (hf.1 hc)) fun x hx _ => hx
namespace St
theorem is_rolls : FnIs Tryz.prog (137, Tryz.f137) := ⟨Tryz.func137, by kernel_rfl, by kernel_rfl⟩
theorem is_flies : FnIs Tryz.prog (98, Tryz.f98) := ⟨Tryz.func98, by kernel_rfl, by kernel_rfl⟩
theorem is_knock : FnIs Tryz.prog (100, Tryz.f100) := ⟨Tryz.func100, by kernel_rfl, by kernel_rfl⟩
theorem is_must : FnIs Tryz.prog (49, Tryz.f49) := ⟨Tryz.func49, by kernel_rfl, by kernel_rfl⟩
theorem is_gslow : FnIs Tryz.prog (101, Tryz.f101) := ⟨Tryz.func101, by kernel_rfl, by kernel_rfl⟩
theorem is_gmove : FnIs Tryz.prog (102, Tryz.f102) := ⟨Tryz.func102, by kernel_rfl, by kernel_rfl⟩
theorem is_gsettle : FnIs Tryz.prog (50, Tryz.f50) := ⟨Tryz.func50, by kernel_rfl, by kernel_rfl⟩
theorem is_gbump : FnIs Tryz.prog (103, Tryz.f103) := ⟨Tryz.func103, by kernel_rfl, by kernel_rfl⟩
theorem is_gtick : FnIs Tryz.prog (54, Tryz.f54) := ⟨Tryz.func54, by kernel_rfl, by kernel_rfl⟩
theorem is_Tick1 : FnIs Tryz.prog (53, Tryz.f53) := ⟨Tryz.func53, by kernel_rfl, by kernel_rfl⟩
theorem is_Strike1 : FnIs Tryz.prog (46, Tryz.f46) := ⟨Tryz.func46, by kernel_rfl, by kernel_rfl⟩
abbrev kGm (f : Nat) : List SK := [.d .s, .d cI, .d cI, .d cI, .d (.sl Bbj), .d cI, .d cI, .d cI, .d cI, .d cI, .d (.sl Bc3), .d (.sl No), .d cI, .d cI, .d (.sl Baf), .w 2 60 Bau, .o 4 .b, .d cI, .d cI, .d cI, .d cI, .f f [] [.p 1 0 0 0]]
abbrev bsG (f : Nat) : List BK := [(0, 137, kGm f), (1, 48, [.o 58 cKn])]
abbrev GM : Type := SKTs (kGm 0)
abbrev Kns : Type := List (TCT cKn)
abbrev Bam : Type := List (TCT Bau)
def gmX (m : GM) : SKTs kGr := (m.1, m.2.1, m.2.2.1, m.2.2.2.1, m.2.2.2.2.1, m.2.2.2.2.2.1, m.2.2.2.2.2.2.1, m.2.2.2.2.2.2.2.1, m.2.2.2.2.2.2.2.2.1, m.2.2.2.2.2.2.2.2.2.1, m.2.2.2.2.2.2.2.2.2.2.1, m.2.2.2.2.2.2.2.2.2.2.2.1, m.2.2.2.2.2.2.2.2.2.2.2.2.1, m.2.2.2.2.2.2.2.2.2.2.2.2.2.1, ())
def gmP (m : GM) : List (TCT Baf) := m.2.2.2.2.2.2.2.2.2.2.2.2.2.2.1
def gmM (m : GM) : Bam := m.2.2.2.2.2.2.2.2.2.2.2.2.2.2.2.1
def gmO (m : GM) : List Bool := m.2.2.2.2.2.2.2.2.2.2.2.2.2.2.2.2.1
def gmW (m : GM) : Int := m.2.2.2.2.2.2.2.2.2.2.2.2.2.2.2.2.2.1
def gmF (m : GM) : Int := m.2.2.2.2.2.2.2.2.2.2.2.2.2.2.2.2.2.2.1
def gmT (m : GM) : Int := m.2.2.2.2.2.2.2.2.2.2.2.2.2.2.2.2.2.2.2.1
def gmS (m : GM) : Int := m.2.2.2.2.2.2.2.2.2.2.2.2.2.2.2.2.2.2.2.2.1
def gmU (m : GM) (ms : Bam) (os : List Bool) : GM := (m.1, m.2.1, m.2.2.1, m.2.2.2.1, m.2.2.2.2.1, m.2.2.2.2.2.1, m.2.2.2.2.2.2.1, m.2.2.2.2.2.2.2.1, m.2.2.2.2.2.2.2.2.1, m.2.2.2.2.2.2.2.2.2.1, m.2.2.2.2.2.2.2.2.2.2.1, m.2.2.2.2.2.2.2.2.2.2.2.1, m.2.2.2.2.2.2.2.2.2.2.2.2.1, m.2.2.2.2.2.2.2.2.2.2.2.2.2.1, m.2.2.2.2.2.2.2.2.2.2.2.2.2.2.1, ms, os, m.2.2.2.2.2.2.2.2.2.2.2.2.2.2.2.2.2.1, m.2.2.2.2.2.2.2.2.2.2.2.2.2.2.2.2.2.2.1, m.2.2.2.2.2.2.2.2.2.2.2.2.2.2.2.2.2.2.2.1, m.2.2.2.2.2.2.2.2.2.2.2.2.2.2.2.2.2.2.2.2.1, m.2.2.2.2.2.2.2.2.2.2.2.2.2.2.2.2.2.2.2.2.2.1, ())
def gmB (m : GM) : List (TCT No) := blX (gmX m)
def gmL (m : GM) : TCT Bao := lwG (gmX m)
abbrev GB : Type := GM × SKTs [.o 0 cKn] × Unit
def gb (m : GM) (k : Kns) : GB := (m, (k, ()), ())
def plGm : List (Nat × PureT) := (79, C1v) :: (18, C1t) :: (19, Cmv) :: (39, Cmq) :: (138, Cmu) :: (99, C3c) :: plS4
def Cqu : List AV → List Nat
 | [] => []
 | .own i :: l => i :: Cqu l
 | _ :: l => Cqu l
def Bif (hp : Baj) (args : List AV) : Option (List Nat) := match args with
 | .ptr id _ _ _ :: _ => match hp id with
  | some (.blk b) => match nth b.cs 21 with
   | some (.fn _ _ [.ptr k _ _ _]) => match hp k with
    | some (.blk c) => some (id :: k :: (Cqu b.cs ++ Cqu c.cs))
    | _ => none
   | _ => none
  | _ => none
 | _ => none
def C25 (f : Nat) : FLay := { ks := [.p 0 0 0 0, .d cI], bs := bsG f, nx := 1000 }
def D6u (f : Nat) : FLay := { ks := [.d .b], bs := bsG f, nx := 1000 }
def FN : FLay := { ks := [.i 49 .i64], bs := [], nx := 1000 }
def Bvz (f : Nat) (b : Bool) : FLay := bif b then D6u f else FN
def inO {β : Type} (n : Nat) (i : Int) (k : Tree β) : Tree β := inN n i (bif decide (Int.toNat i < n) then k else .fail)
theorem Bdt {β : Type} {n : Nat} {i : Int} {k : Tree β} (h : 0 ≤ i ∧ i < (n : Int)) : inO n i k = k := by
 unfold inO
 rw [Bdb h, decide_eq_true (by omega)]; rfl
def Bbs (ms : Bam) (os : List Bool) (i : Nat) : Bool := !Bat os i (Bar .b) && C22 (Bat ms i (Bar Bau))
def Bdp (w fl i : Int) : Bool := (i == w) && decide (fl > 0)
def Bw0 (ms : Bam) (os : List Bool) (i : Int) : Bool := decide (0 ≤ i ∧ i < (os.length : Int) ∧ i < (ms.length : Int))
def lfB (f : Nat) (b : Bool) (x : GB) : Tree (Bcw (Bvz f)) := .leaf ⟨true, ((b, ()), x)⟩
def T_ro (f : Nat) (i : Int) (m : GM) (x : GB) : Tree (Bcw (Bvz f)) := inO (gmO m).length i (bif !Bat (gmO m) (Int.toNat i) (Bar .b) then inO (gmM m).length i (lfB f (C22 (Bat (gmM m) (Int.toNat i) (Bar Bau))) x) else lfB f false x)
abbrev C_ro (f : Nat) (g : (C25 f).T) : Bool := Bw0 g.2.1.2.2.2.2.2.2.2.2.2.2.2.2.2.2.2.1 g.2.1.2.2.2.2.2.2.2.2.2.2.2.2.2.2.2.2.1 g.1.2.1
def V_ro (f : Nat) (g : (C25 f).T) : (Bvz f true).T := ((Bbs g.2.1.2.2.2.2.2.2.2.2.2.2.2.2.2.2.2.1 g.2.1.2.2.2.2.2.2.2.2.2.2.2.2.2.2.2.2.1 (Int.toNat g.1.2.1), ()), g.2)
def C_fl (f : Nat) (_ : (C25 f).T) : Bool := true
def V_fl (f : Nat) (g : (C25 f).T) : (Bvz f true).T := ((Bdp g.2.1.2.2.2.2.2.2.2.2.2.2.2.2.2.2.2.2.2.1 g.2.1.2.2.2.2.2.2.2.2.2.2.2.2.2.2.2.2.2.2.1 g.1.2.1, ()), g.2)
def T_fl (f : Nat) (i : Int) (m : GM) (x : GB) : Tree (Bcw (Bvz f)) := bif i == gmW m then lfB f (decide (gmF m > 0)) x else lfB f false x
theorem Brq {f : Nat} (b : Bool) : 1000 ≤ (Bvz f b).nx := by cases b <;> exact Nat.le_refl _
theorem Cjd {f : Nat} {g : (C25 f).T} (h : C_ro f g = true) : (T_ro f g.1.2.1 g.2.1 g.2).run = some ⟨true, V_ro f g⟩ := by
 have hd : 0 ≤ g.1.2.1 ∧ g.1.2.1 < ((gmO g.2.1).length : Int) ∧ g.1.2.1 < ((gmM g.2.1).length : Int) := of_decide_eq_true h
 unfold V_ro
 show (T_ro f g.1.2.1 g.2.1 g.2).run = some (⟨true, ((Bbs (gmM g.2.1) (gmO g.2.1) (Int.toNat g.1.2.1), ()), g.2)⟩ : Bcw (Bvz f))
 unfold T_ro Bbs
 rw [Bdt ⟨hd.1, hd.2.1⟩, Bdt ⟨hd.1, hd.2.2⟩]
 cases Bat (gmO g.2.1) (Int.toNat g.1.2.1) (Bar .b) <;> rfl
theorem Cje {f : Nat} {g : (C25 f).T} : (T_fl f g.1.2.1 g.2.1 g.2).run = some ⟨true, V_fl f g⟩ := by
 unfold V_fl
 show (T_fl f g.1.2.1 g.2.1 g.2).run = some (⟨true, ((Bdp (gmW g.2.1) (gmF g.2.1) g.1.2.1, ()), g.2)⟩ : Bcw (Bvz f))
 unfold T_fl Bdp
 cases g.1.2.1 == gmW g.2.1 <;> rfl
abbrev sp_ro (f : Nat) : Baj → Nat → List AV → Tree (Out × Baj × Nat) := Bi9 Bif (C25 f) (Bvz f) (Cy7 (fun g => Bw0 g.2.1.2.2.2.2.2.2.2.2.2.2.2.2.2.2.2.1 g.2.1.2.2.2.2.2.2.2.2.2.2.2.2.2.2.2.2.1 g.1.2.1) (V_ro f))
abbrev sp_fl (f : Nat) : Baj → Nat → List AV → Tree (Out × Baj × Nat) := Bi9 Bif (C25 f) (Bvz f) (Cy7 (fun _ => true) (V_fl f))
theorem puGm : Bc7 Tryz.prog plGm := puOk_cons is_sOn.plain Cvg (puOk_cons is_CellAt.plain Cim (puOk_cons is_Slow.plain D0p (puOk_cons is_Step.plain D0n (puOk_cons is_Bump.plain D0o (puOk_cons is_Settle.plain Cly puS4)))))
noncomputable def D6v : Ctx := ctx Tryz.prog plGm [(137, Tryz.f137), (98, Tryz.f98)]
theorem Brr : CtxOk D6v := Bap Ban puGm (fns_cons is_rolls (fns_cons is_flies Fq))
theorem Bes : Bbn Tryz.prog 137 (sp_ro 53) := Byy Brr 6 Brq (C_ro 53) (V_ro 53) (fun g => T_ro 53 g.1.2.1 g.2.1 g.2) (fun g => by kernel_rfl) fun _ _ h => Cjd h
theorem Bet : Bbn Tryz.prog 98 (sp_fl 53) := Byy Brr 6 Brq (C_fl 53) (V_fl 53) (fun g => T_fl 53 g.1.2.1 g.2.1 g.2) (fun g => by kernel_rfl) fun _ _ _ => Cje
theorem Brs : Bbn Tryz.prog 137 (sp_ro 46) := Byy Brr 6 Brq (C_ro 46) (V_ro 46) (fun g => T_ro 46 g.1.2.1 g.2.1 g.2) (fun g => by kernel_rfl) fun _ _ h => Cjd h
theorem Brt : Bbn Tryz.prog 98 (sp_fl 46) := Byy Brr 6 Brq (C_fl 46) (V_fl 46) (fun g => T_fl 46 g.1.2.1 g.2.1 g.2) (fun g => by kernel_rfl) fun _ _ _ => Cje
end St
end V
end Go.Proofs.YtcfanlgpkefogaaGreat
namespace Go.Proofs.YtcfanlgpkefogaaGreat
open Go.RowKit
namespace V
def Bsw {L : FLay} {E : Bool → FLay} {A : Type} (Y : L.T → Option (A ⊕ Int)) (mk : L.T → A → (E true).T) (pn : Int → (E false).T) (d : A) (g : L.T) : Tree (Bcw E) :=
 .br (isL (Y g)) (.leaf ⟨true, mk g (gL d (Y g))⟩) (.br (isR (Y g)) (.leaf ⟨false, pn (gR 0 (Y g))⟩) .fail)
def Bw1 {L : FLay} {E : Bool → FLay} {A : Type} (mk : L.T → A → (E true).T) (pn : Int → (E false).T) (g : L.T) : A ⊕ Int → Bcw E
 | .inl a => ⟨true, mk g a⟩
 | .inr e => ⟨false, pn e⟩
theorem Cjf {L : FLay} {E : Bool → FLay} {A : Type} {Y : L.T → Option (A ⊕ Int)} {mk : L.T → A → (E true).T} {pn : Int → (E false).T} {d : A} {g : L.T} {R : Bcw E → Prop} (h : (Bsw Y mk pn d g).sat R) : ∃ z, Y g = some z ∧ R (Bw1 mk pn g z) := by
 unfold Bsw at h
 obtain ⟨h1, h2⟩ := h
 cases hF : Y g with
 | none =>
  rw [hF] at h2
  exact ((h2 rfl).2 rfl).elim
 | some z =>
  cases z with
  | inl a => rw [hF] at h1; exact ⟨_, rfl, h1 rfl⟩
  | inr b => rw [hF] at h2; exact ⟨_, rfl, (h2 rfl).1 rfl⟩
theorem Bpm {X : Ctx} (hX : CtxOk X) {f : FuncId} (m : Nat) {probe : Baj → List AV → Option (List Nat)} {L : FLay} {E : Bool → FLay} (hE : ∀ b, L.nx ≤ (E b).nx) {A : Type} (Y : L.T → Option (A ⊕ Int)) (mk : L.T → A → (E true).T) (pn : Int → (E false).T) (d : A) (T : L.T → Tree (Bcw E))
  (he : ∀ g, Bn3 X (Bcv X m) f (ofKs L.ks g.1 L.nx) (L.lay.hp g) (L.lay.of g).nx (Bv5 E) = T g)
  (h : ∀ g z, L.lay.WF g → Y g = some z → (T g).run = some (Bw1 mk pn g z)) : Bbn X.P f (Bi9 probe L E (Bsw Y mk pn d)) :=
 C4k hX m hE fun g R hw hf => by
  rw [he]
  obtain ⟨z, hz, hr⟩ := Cjf hf
  exact Bsv (Tree.sat_run (h g z hw hz) hr) fun x hx _ => hx
namespace St
def nBx (m : GM) : Nat := (gmB m).length
def Cjg (m : GM) : Bool := decide ((m.1.size : Int) ≤ Bb2 .i64) && (decide ((gmM m).length = nBx m) && (decide ((gmO m).length = nBx m) && decide (nBx m ≤ 8)))
structure OkGM (m : GM) : Prop where
 sz : (m.1.size : Int) ≤ Bb2 .i64
 ms : (gmM m).length = nBx m
 os : (gmO m).length = nBx m
 n : nBx m ≤ 8
theorem Bfa {m : GM} : Cjg m = true ↔ OkGM m := by
 unfold Cjg
 simp only [Bool.and_eq_true, decide_eq_true_eq]
 exact ⟨fun h => ⟨h.1, h.2.1, h.2.2.1, h.2.2.2⟩, fun h => ⟨h.sz, h.ms, h.os, h.n⟩⟩
def FL_g (f : Nat) : FLay := { ks := [.p 0 0 0 0], bs := bsG f, nx := 1000 }
def D6w (f : Nat) : FLay := { ks := [], bs := bsG f, nx := 1000 }
def FE_u (f : Nat) (b : Bool) : FLay := bif b then D6w f else FN
theorem Blj {f : Nat} (b : Bool) : 1000 ≤ (FE_u f b).nx := by cases b <;> exact Nat.le_refl _
def pnU (f : Nat) (e : Int) : (FE_u f false).T := ((e, ()), ())
def mkU (f : Nat) (x : GB) : (FE_u f true).T := ((), x)
def spG (f : Nat) : List (Nat × (Baj → Nat → List AV → Tree (Out × Baj × Nat))) := [(137, sp_ro f), (98, sp_fl f)]
theorem Biq {P : Program} {f g : Nat} {sp sq : Baj → Nat → List AV → Tree (Out × Baj × Nat)} (h : Plain P f) (k : Bbn P f sp) (h2 : Plain P g) (k2 : Bbn P g sq) : ∀ p ∈ [(f, sp), (g, sq)], Plain P p.1 ∧ Bbn P p.1 p.2 := fun p hp => by
 simp only [List.mem_cons, List.not_mem_nil, or_false] at hp
 rcases hp with rfl | rfl
 ·exact ⟨h, k⟩
 ·exact ⟨h2, k2⟩
theorem Bir {P : Program} {fns : List (Nat × Func)} : ∀ p ∈ fns, ∀ d ∈ Bak (bodyOf p.2), ∀ g, Bbx ([] : List ((Nat × Nat) × (St → Tree (XE × St)))) p.1 (keyOf d) = some g → Baz P p.1 d g := fun _ _ _ _ _ h => by simp [Bbx] at h
noncomputable def D6x (f : Nat) : Ctx := Bv8 Tryz.prog plGm [(49, Tryz.f49)] [] (spG f)
theorem Cqv {f : Nat} (h1 : Bbn Tryz.prog 137 (sp_ro f)) (h2 : Bbn Tryz.prog 98 (sp_fl f)) : CtxOk (D6x f) := Bg9 Ban puGm (fns_cons is_must Fq) Bir (Biq is_rolls.plain h1 is_flies.plain h2)
noncomputable def Cvl : Code := (Bak (bodyOf Tryz.f101)).getD 0 .skip
def Cd1 (f : Nat) : Lay := { keys := [0, 13, 14], ks := [.p 0 0 0 0, .d cI, .d cI], bs := bsG f, n := 80, nx := 2000, marks := [] }
def D6y (f : Nat) : Lay := { keys := [], ks := [], bs := bsG f, n := 80, nx := 2000, marks := [] }
def D6z : Lay := { keys := [], ks := [], bs := [], n := 80, nx := 2000, marks := [] }
def C6d (f : Nat) : XE → Lay := fun e => match e with | .panic _ => D6z | _ => D6y f
def Bkb (l : TCT Bao) (m : TCT Bau) : TCTs [cPt, cI] := Bk6 (W64 (m.2.1.1 + (Bhx l m.1).2.1)) (W64 (m.2.1.2.1 + (Bhx l m.1).2.2.1)) (Bhx l m.1).1
def C6e (l : TCT Bao) (m : TCT Bau) : TCT Bau := (m.1, ((Bkb l m).1.1, (Bkb l m).1.2.1, ()), m.2.2.1, ())
def Bah (ms : Bam) (i : Nat) : TCT Bau := Bat ms i (Bar Bau)
def gk (x : GB) : Kns := x.2.1.1
def Bmb (f : Nat) (x : GB) (n i : Int) (ms : Bam) : (Cd1 f).T := (((), n, i, ()), (gb (gmU x.1 ms (gmO x.1)) (gk x)))
def Cjh (f : Nat) (x : GB) (ms : Bam) : Fp (C6d f) := ⟨.exit 0, ((), (gb (gmU x.1 ms (gmO x.1)) (gk x)))⟩
def Cji (f : Nat) (e : Int) : Fp (C6d f) := ⟨.panic (.ifc 49 (.int .i64 e)), ((), ())⟩
abbrev TSw (f : Nat) := Tree ((Cd1 f).T ⊕ Fp (C6d f))
def inT {β : Type} (n : Nat) (i : Int) (k : Tree β) : Tree β := bif decide (Int.toNat i < n) then k else .fail
theorem C6f {β : Type} {n : Nat} {i : Int} {k : Tree β} (h : 0 ≤ i ∧ i < (n : Int)) : inT n i k = k := by unfold inT; rw [decide_eq_true (by omega)]; rfl
def Cjj (f : Nat) (x : GB) (n i : Int) (ms : Bam) : TSw f :=
 bif Bed (gmL x.1) (Bah ms (Int.toNat i)).1 != 0 then .leaf (.inr (Cji f (Bed (gmL x.1) (Bah ms (Int.toNat i)).1))) else inT ms.length i (inT ms.length i (
  bif (Bkb (gmL x.1) (Bah ms (Int.toNat i))).2.1 != 0 then .leaf (.inr (Cji f 4)) else inT ms.length i (.leaf (.inl (Bmb f x n (W64 (i + 1)) (Bb7 ms (Int.toNat i) (C6e (gmL x.1) (Bah ms (Int.toNat i)))))))))
def szG {β : Type} (m : GM) (k : Tree β) : Tree β := bif decide ((m.1.size : Int) ≤ Bb2 .i64) then k else .fail
def Bsx (f : Nat) (x : GB) (n i : Int) (ms : Bam) : TSw f := bif decide (i < n) then bif Bw0 ms (gmO x.1) i then
 bif !Bbs ms (gmO x.1) (Int.toNat i) then .leaf (.inl (Bmb f x n (W64 (i + 1)) ms)) else bif Bdp (gmW x.1) (gmF x.1) i then .leaf (.inl (Bmb f x n (W64 (i + 1)) ms)) else
 inO ms.length i (szG x.1 (Cjj f x n i ms)) else .fail else .leaf (.inr (Cjh f x ms))
def Cjk (f : Nat) (g : (Cd1 f).T) : TSw f := Bsx f g.2 g.1.2.1 g.1.2.2.1 (gmM g.2.1)
def fu_sw (f : Nat) (g : (Cd1 f).T) : Nat := Int.toNat g.1.2.1 + 1
def sm_sw (f : Nat) : St → Tree (XE × St) := Bav (Cd1 f) (C6d f) (finP 49 .i64 [.exit 0] (Cjk f) (fu_sw f))
theorem Cqw {f : Nat} (e : XE) : (Cd1 f).nx ≤ (C6d f e).nx := by cases e <;> exact Nat.le_refl _
theorem Cy8 : Baz Tryz.prog 101 Cvl (sm_sw 53) := Bm6 (Cqv Bes Bet) 7 _ _ _ Cqw _ _ _ _ (fu_sw 53) (fun g => by kernel_rfl)
def C26 (m : GM) (i : Nat) (ms : Bam) : Bam ⊕ Int :=
 bif !Bbs ms (gmO m) i || Bdp (gmW m) (gmF m) i then .inl ms else bif Bed (gmL m) (Bah ms i).1 != 0 then .inr (Bed (gmL m) (Bah ms i).1) else
 bif (Bkb (gmL m) (Bah ms i)).2.1 != 0 then .inr 4 else .inl (Bb7 ms i (C6e (gmL m) (Bah ms i)))
def Bsy (f : Nat) (x : GB) : Bam ⊕ Int → Fp (C6d f)
 | .inl ms => Cjh f x ms
 | .inr e => Cji f e
theorem Bbf {α : Type} : ∀ (l : List α) (i : Nat) (x : α), (Bb7 l i x).length = l.length
 | [], _, _ => rfl
 | _ :: _, 0, _ => rfl
 | _ :: l, i + 1, x => by simp only [Bb7, List.length_cons, Bbf l i x]
theorem Cjl {m : GM} {n : Nat} (i : Nat) (s s' : Bam) (_ : i < n) (hi : s.length = n) (h : C26 m i s = .inl s') : s'.length = n := by
 unfold C26 at h
 cases h1 : !Bbs s (gmO m) i || Bdp (gmW m) (gmF m) i with
 | true => rw [h1] at h; cases h; exact hi
 | false =>
  rw [h1] at h
  cases h2 : Bed (gmL m) (Bah s i).1 != 0 with
  | true => rw [h2] at h; cases h
  | false =>
   rw [h2] at h
   cases h3 : (Bkb (gmL m) (Bah s i)).2.1 != 0 with
   | true => rw [h3] at h; cases h
   | false => rw [h3] at h; cases h; rw [Bbf]; exact hi
theorem Byz {ms : Bam} {os : List Bool} {i n : Nat} (h : i < n) (h1 : ms.length = n) (h2 : os.length = n) : Bw0 ms os (i : Int) = true := by
 unfold Bw0
 exact decide_eq_true (by omega)
theorem D3b {f : Nat} {x : GB} {ms : Bam} (hx : OkGM x.1) (hm : ms.length = nBx x.1) : iter (Cjk f) (nBx x.1 + 1) (Bmb f x (nBx x.1) 0 ms) = some (Bsy f x (Baw (C26 x.1) 0 (nBx x.1) ms)) := by
 have hn : (nBx x.1 : Int) ≤ Bb2 .i64 := by have := hx.n; show (nBx x.1 : Int) ≤ 9223372036854775807; omega
 refine Bf9 (nBx x.1) (fun i ms => Bmb f x (nBx x.1) i ms) (C26 x.1) (Bsy f x) (fun _ ms => ms.length = nBx x.1) (fun i ms hi hl => ?_) Cjl (fun ms hl => ?_) (nBx x.1) 0 ms (by omega) hm
 ·show (Bsx f (gb (gmU x.1 ms (gmO x.1)) (gk x)) (nBx x.1) (i : Int) ms).run = _
  have e : ∀ y z, Bmb f (gb (gmU x.1 ms (gmO x.1)) (gk x)) (nBx x.1) y z = Bmb f x (nBx x.1) y z := fun _ _ => rfl
  unfold Bsx
  have hin := Byz hi hl hx.os
  show Tree.run (bif decide ((i : Int) < (nBx x.1 : Int)) then bif Bw0 ms (gmO x.1) (i : Int) then bif !Bbs ms (gmO x.1) i then .leaf (.inl (Bmb f x (nBx x.1) (W64 ((i : Int) + 1)) ms)) else bif Bdp (gmW x.1) (gmF x.1) i then .leaf (.inl (Bmb f x (nBx x.1) (W64 ((i : Int) + 1)) ms)) else
   inO ms.length i (szG x.1 (Cjj f x (nBx x.1) i ms)) else .fail else .leaf (.inr (Cjh f x ms)) : TSw f) = _
  have hsz : ∀ k : TSw f, szG x.1 k = k := fun k => by unfold szG; rw [decide_eq_true hx.sz]; rfl
  rw [decide_eq_true (show (i : Int) < (nBx x.1 : Int) by omega), hin, Bdt (by omega), hsz, Bct hi hn]
  unfold C26 Cjj
  rw [C6f (by omega), C6f (by omega), C6f (by omega), show Int.toNat (i : Int) = i from rfl, Bct hi hn]
  cases Bbs ms (gmO x.1) i with
  | false => rfl
  | true =>
   cases Bdp (gmW x.1) (gmF x.1) i with
   | true => rfl
   | false =>
    simp only [Bool.not_true, Bool.or_self, cond_true, cond_false]
    cases Bed (gmL x.1) (Bah ms i).1 != 0 with
    | true => rfl
    | false =>
     simp only [cond_false]
     cases (Bkb (gmL x.1) (Bah ms i)).2.1 != 0 <;> rfl
 ·show (Bsx f (gb (gmU x.1 ms (gmO x.1)) (gk x)) (nBx x.1) (nBx x.1) ms).run = _
  unfold Bsx
  rw [decide_eq_false (show ¬ (nBx x.1 : Int) < (nBx x.1 : Int) by omega)]
  rfl
end St
end V
end Go.Proofs.YtcfanlgpkefogaaGreat
namespace Go.Proofs.YtcfanlgpkefogaaGreat
open Go.RowKit
namespace V
namespace St
noncomputable def D70 (f : Nat) : Ctx := Bv8 Tryz.prog plGm [(101, Tryz.f101)] [((101, 1), sm_sw f)] (spG f)
theorem Cqx {f : Nat} (h1 : Bbn Tryz.prog 137 (sp_ro f)) (h2 : Bbn Tryz.prog 98 (sp_fl f)) (hl : Baz Tryz.prog 101 Cvl (sm_sw f)) : CtxOk (D70 f) :=
 Bg9 Ban puGm (fns_cons is_gslow Fq) (Bbt (by kernel_rfl) (by kernel_rfl) hl) (Biq is_rolls.plain h1 is_flies.plain h2)
def Cjm (f : Nat) (x : GB) : Option (Fp (C6d f)) := iter (Cjk f) (nBx x.1 + 1) (Bmb f x (nBx x.1) 0 (gmM x.1))
def T_slw (f : Nat) (x : GB) : Tree (Bcw (FE_u f)) := bif isP 49 .i64 (Cjm f x) then .leaf ⟨false, pnU f (panO 49 .i64 (Cjm f x)).1⟩ else bif isE (.exit 0) (Cjm f x) then .leaf ⟨true, ((), (Bc4 (.exit 0) (Cjm f x)).2)⟩ else .fail
def Bsz (x : GB) : Option (Bam ⊕ Int) := bif Cjg x.1 then some (Baw (C26 x.1) 0 (nBx x.1) (gmM x.1)) else none
def C6g (f : Nat) (x : GB) (ms : Bam) : (FE_u f true).T := mkU f (gb (gmU x.1 ms (gmO x.1)) (gk x))
abbrev sp_slw (f : Nat) : Baj → Nat → List AV → Tree (Out × Baj × Nat) := Bi9 Bif (FL_g f) (FE_u f) (Bsw (fun g : (FL_g f).T => Bsz g.2) (fun g => C6g f g.2) (pnU f) [])
theorem Cqy {f : Nat} {g : (FL_g f).T} {z : Bam ⊕ Int} (h : Bsz g.2 = some z) : (T_slw f g.2).run = some (Bw1 (L := FL_g f) (E := FE_u f) (fun g => C6g f g.2) (pnU f) g z) := by
 unfold Bsz at h
 cases ho : Cjg g.2.1 with
 | false => rw [ho] at h; cases h
 | true =>
  rw [ho] at h
  cases h
  have hy : Cjm f g.2 = some (Bsy f g.2 (Baw (C26 g.2.1) 0 (nBx g.2.1) (gmM g.2.1))) := D3b (Bfa.1 ho) (Bfa.1 ho).ms
  unfold T_slw
  rw [hy]
  cases Baw (C26 g.2.1) 0 (nBx g.2.1) (gmM g.2.1) with
  | inl ms => rfl
  | inr e =>
   have h1 : isP 49 .i64 (some (Bsy f g.2 (.inr e))) = true := Blg
   have h2 : panO 49 .i64 (some (Bsy f g.2 (.inr e))) = ⟨e, ((), ())⟩ := Bh9
   rw [h1, h2]
   rfl
theorem Cjn : Bbn Tryz.prog 101 (sp_slw 53) := Bpm (Cqx Bes Bet Cy8) 6 Blj _ _ _ _ (fun g => T_slw 53 g.2) (fun g => by kernel_rfl) fun _ _ _ h => Cqy h
end St
end V
end Go.Proofs.YtcfanlgpkefogaaGreat
namespace Go.Proofs.YtcfanlgpkefogaaGreat
open Go.RowKit
namespace V
theorem Bt0 {P : Program} {f : Nat} {fn : Func} {loops : List ((Nat × Nat) × (St → Tree (XE × St)))} (h : Bak (bodyOf fn) = []) : ∀ d ∈ Bak (bodyOf fn), ∀ g, Bbx loops f (keyOf d) = some g → Baz P f d g := by
 intro d hd
 rw [h] at hd
 cases hd
theorem Bis {P : Program} {loops : List ((Nat × Nat) × (St → Tree (XE × St)))} : ∀ q ∈ ([] : List (Nat × Func)), ∀ d ∈ Bak (bodyOf q.2), ∀ g, Bbx loops q.1 (keyOf d) = some g → Baz P q.1 d g := fun _ h => nomatch h
theorem Bdz {P : Program} {f : Nat} {fn : Func} {rest : List (Nat × Func)} {loops : List ((Nat × Nat) × (St → Tree (XE × St)))} (h : ∀ d ∈ Bak (bodyOf fn), ∀ g, Bbx loops f (keyOf d) = some g → Baz P f d g)
  (hr : ∀ q ∈ rest, ∀ d ∈ Bak (bodyOf q.2), ∀ g, Bbx loops q.1 (keyOf d) = some g → Baz P q.1 d g) : ∀ q ∈ (f, fn) :: rest, ∀ d ∈ Bak (bodyOf q.2), ∀ g, Bbx loops q.1 (keyOf d) = some g → Baz P q.1 d g := by
 intro q hq
 rcases List.mem_cons.1 hq with rfl | hq
 ·exact h
 ·exact hr q hq
def Cvm (P : Program) (f : Nat) (loops : List ((Nat × Nat) × (St → Tree (XE × St)))) : List Code → Prop
 | [] => True
 | d :: l => (∀ g, Bbx loops f (keyOf d) = some g → Baz P f d g) ∧ Cvm P f loops l
theorem Bo0 {P : Program} {f : Nat} {fn : Func} {loops : List ((Nat × Nat) × (St → Tree (XE × St)))} {ds : List Code} (h : Bak (bodyOf fn) = ds) (ha : Cvm P f loops ds) : ∀ d ∈ Bak (bodyOf fn), ∀ g, Bbx loops f (keyOf d) = some g → Baz P f d g := by
 rw [h]
 clear h
 induction ds with
 | nil => intro d hd; cases hd
 | cons a l ih =>
  intro d hd
  rcases List.mem_cons.1 hd with rfl | hd
  ·exact ha.1
  ·exact ih ha.2 d hd
theorem Bhy {P : Program} {f : Nat} {d : Code} {loops : List ((Nat × Nat) × (St → Tree (XE × St)))} {k : Nat} {s : St → Tree (XE × St)} (hk : keyOf d = k) (ha : Bbx loops f k = some s) (h : Baz P f d s) : ∀ g, Bbx loops f (keyOf d) = some g → Baz P f d g := by
 intro g hg
 rw [hk, ha] at hg
 cases hg
 exact h
namespace St
noncomputable def Cjo : Code := (Bak (bodyOf Tryz.f102)).getD 0 .skip
def Cd2 (f : Nat) : Lay := { keys := [0, 12, 13, 14], ks := [.p 0 0 0 0, .d (.sl No), .d cI, .d cI], bs := bsG f, n := 104, nx := 2000, marks := [] }
def D71 (f : Nat) : Lay := { keys := [0], ks := [.p 0 0 0 0], bs := bsG f, n := 104, nx := 2000, marks := [] }
def D3c : Lay := { keys := [], ks := [], bs := [], n := 104, nx := 3000, marks := [] }
def C27 (f : Nat) : XE → Lay := fun e => match e with | .panic _ => D3c | _ => D71 f
def Bmt (b : TCT No) (m : TCT Bau) : TCTs [Bau, cI] := Biw (bm b m)
def Bd1 (bl : List (TCT No)) (i : Nat) : TCT No := Bat bl i (Bar No)
def Bwy (f : Nat) (x : GB) (bl : List (TCT No)) (n i : Int) (ms : Bam) : (Cd2 f).T := (((), bl, n, i, ()), (gb (gmU x.1 ms (gmO x.1)) (gk x)))
def Cjp (f : Nat) (x : GB) (ms : Bam) : Fp (C27 f) := ⟨.exit 0, (((), ()), (gb (gmU x.1 ms (gmO x.1)) (gk x)))⟩
def Cvn (f : Nat) (e : Int) : Fp (C27 f) := ⟨.panic (.ifc 49 (.int .i64 e)), ((), ())⟩
abbrev TM1 (f : Nat) := Tree ((Cd2 f).T ⊕ Fp (C27 f))
def Cjq (f : Nat) (x : GB) (bl : List (TCT No)) (n i : Int) (ms : Bam) : TM1 f := inO ms.length i (bif (Bmt (Bd1 bl (Int.toNat i)) (Bah ms (Int.toNat i))).2.1 != 0 then .leaf (.inr (Cvn f (Bmt (Bd1 bl (Int.toNat i)) (Bah ms (Int.toNat i))).2.1)) else
 inO ms.length i (.leaf (.inl (Bwy f x bl n (W64 (i + 1)) (Bb7 ms (Int.toNat i) (Bmt (Bd1 bl (Int.toNat i)) (Bah ms (Int.toNat i))).1)))))
def C6h (f : Nat) (x : GB) (bl : List (TCT No)) (n i : Int) (ms : Bam) : TM1 f := bif decide (i < n) then inN bl.length i (bif Bw0 ms (gmO x.1) i then bif Bbs ms (gmO x.1) (Int.toNat i) then Cjq f x bl n i ms else .leaf (.inl (Bwy f x bl n (W64 (i + 1)) ms)) else .fail) else .leaf (.inr (Cjp f x ms))
def Cjr (f : Nat) (g : (Cd2 f).T) : TM1 f := C6h f g.2 g.1.2.1 g.1.2.2.1 g.1.2.2.2.1 (gmM g.2.1)
def fu_m1 (f : Nat) (g : (Cd2 f).T) : Nat := Int.toNat g.1.2.2.1 + 1
def sm_m1 (f : Nat) : St → Tree (XE × St) := Bav (Cd2 f) (C27 f) (finP 49 .i64 [.exit 0] (Cjr f) (fu_m1 f))
theorem Cqz {f : Nat} (e : XE) : (Cd2 f).nx ≤ (C27 f e).nx := by cases e <;> first | exact Nat.le_refl _ | exact (by decide : (2000 : Nat) ≤ 3000)
def stE (bl : List (TCT No)) (os : List Bool) (i : Nat) (ms : Bam) : Bam ⊕ Int := bif !Bbs ms os i then .inl ms else bif (Bmt (Bd1 bl i) (Bah ms i)).2.1 != 0 then .inr (Bmt (Bd1 bl i) (Bah ms i)).2.1 else .inl (Bb7 ms i (Bmt (Bd1 bl i) (Bah ms i)).1)
def Bpn (f : Nat) (x : GB) : Bam ⊕ Int → Fp (C27 f)
 | .inl ms => Cjp f x ms
 | .inr e => Cvn f e
theorem C6i {bl : List (TCT No)} {os : List Bool} {n : Nat} (i : Nat) (s s' : Bam) (_ : i < n) (hi : s.length = n) (h : stE bl os i s = .inl s') : s'.length = n := by
 unfold stE at h
 cases h1 : !Bbs s os i with
 | true => rw [h1] at h; cases h; exact hi
 | false =>
  rw [h1] at h
  cases h3 : (Bmt (Bd1 bl i) (Bah s i)).2.1 != 0 with
  | true => rw [h3] at h; cases h
  | false => rw [h3] at h; cases h; rw [Bbf]; exact hi
theorem D3d {f : Nat} {x : GB} {ms : Bam} (hx : OkGM x.1) (hm : ms.length = nBx x.1) : iter (Cjr f) (nBx x.1 + 1) (Bwy f x (gmB x.1) (nBx x.1) 0 ms) = some (Bpn f x (Baw (stE (gmB x.1) (gmO x.1)) 0 (nBx x.1) ms)) := by
 have hn : (nBx x.1 : Int) ≤ Bb2 .i64 := by have := hx.n; show (nBx x.1 : Int) ≤ 9223372036854775807; omega
 refine Bf9 (nBx x.1) (fun i ms => Bwy f x (gmB x.1) (nBx x.1) i ms) (stE (gmB x.1) (gmO x.1)) (Bpn f x) (fun _ ms => ms.length = nBx x.1) (fun i ms hi hl => ?_) C6i (fun ms hl => ?_) (nBx x.1) 0 ms (by omega) hm
 ·show Tree.run (bif decide ((i : Int) < (nBx x.1 : Int)) then inN (nBx x.1) i (bif Bw0 ms (gmO x.1) i then bif Bbs ms (gmO x.1) i then Cjq f x (gmB x.1) (nBx x.1) i ms else .leaf (.inl (Bwy f x (gmB x.1) (nBx x.1) (W64 ((i : Int) + 1)) ms)) else .fail) else .leaf (.inr (Cjp f x ms)) : TM1 f) = _
  rw [decide_eq_true (show (i : Int) < (nBx x.1 : Int) by omega), Bdb (by omega), Byz hi hl hx.os, Bct hi hn]
  unfold stE Cjq
  rw [Bdt (by omega), Bdt (by omega), show Int.toNat (i : Int) = i from rfl, Bct hi hn]
  cases Bbs ms (gmO x.1) i with
  | false => rfl
  | true =>
   simp only [Bool.not_true, cond_true, cond_false]
   cases (Bmt (Bd1 (gmB x.1) i) (Bah ms i)).2.1 != 0 <;> rfl
 ·show (C6h f (gb (gmU x.1 ms (gmO x.1)) (gk x)) (gmB x.1) (nBx x.1) (nBx x.1) ms).run = _
  unfold C6h
  rw [decide_eq_false (show ¬ (nBx x.1 : Int) < (nBx x.1 : Int) by omega)]
  rfl
noncomputable def Cjs : Code := (Bak (bodyOf Tryz.f102)).getD 1 .skip
def Cd3 (f : Nat) : Lay := { keys := [0, 52, 53], ks := [.p 0 0 0 0, .d cI, .d cI], bs := bsG f, n := 104, nx := 3000, marks := [] }
def D72 (f : Nat) : Lay := { keys := [], ks := [], bs := bsG f, n := 104, nx := 3000, marks := [] }
def C6j (f : Nat) : XE → Lay := fun e => match e with | .panic _ => D3c | _ => D72 f
abbrev S2 : Type := Bam × List Bool × Kns
def kn (t s k b o : Int) : TCT cKn := (t, s, k, b, o, ())
def D3e (m : TCT Bau) : TCT Bau := (m.1, (0, 0, ()), m.2.2.1, ())
def Bwz (f : Nat) (x : GB) (n i : Int) (s : S2) : (Cd3 f).T := (((), n, i, ()), (gb (gmU x.1 s.1 s.2.1) s.2.2))
def Cjt (f : Nat) (x : GB) (s : S2) : Fp (C6j f) := ⟨.exit 2, ((), (gb (gmU x.1 s.1 s.2.1) s.2.2))⟩
abbrev TM2 (f : Nat) := Tree ((Cd3 f).T ⊕ Fp (C6j f))
def Cd4 {β : Type} (ks : Kns) (k : TCT cKn) (t : Kns → Tree β) : Tree β := bif Bd8 ks [k] 40 then t (ks ++ [k]) else .fail
def Bt1 (f : Nat) (x : GB) (n i : Int) (ms : Bam) (os : List Bool) (ks : Kns) : TM2 f := bif decide (i < n) then inO os.length i (bif !Bat os (Int.toNat i) (Bar .b) then inO ms.length i (
 bif !onB (gmL x.1) (Bah ms (Int.toNat i)).1 then inO os.length i (inO ms.length i (Cd4 ks (kn (gmT x.1) (gmS x.1) 2 i 0) fun ks' => .leaf (.inl (Bwz f x n (W64 (i + 1)) (Bb7 ms (Int.toNat i) (D3e (Bah ms (Int.toNat i))), Bb7 os (Int.toNat i) true, ks')))))
 else .leaf (.inl (Bwz f x n (W64 (i + 1)) (ms, os, ks)))) else .leaf (.inl (Bwz f x n (W64 (i + 1)) (ms, os, ks)))) else .leaf (.inr (Cjt f x (ms, os, ks)))
def Cju (f : Nat) (g : (Cd3 f).T) : TM2 f := Bt1 f g.2 g.1.2.1 g.1.2.2.1 (gmM g.2.1) (gmO g.2.1) (gk g.2)
def fu_m2 (f : Nat) (g : (Cd3 f).T) : Nat := Int.toNat g.1.2.1 + 1
def sm_m2 (f : Nat) : St → Tree (XE × St) := Bav (Cd3 f) (C6j f) (Bcn [.exit 2] (Cju f) (fu_m2 f))
theorem Cr0 {f : Nat} (e : XE) : (Cd3 f).nx ≤ (C6j f e).nx := by cases e <;> exact Nat.le_refl _
noncomputable def D73 (f : Nat) (c : Nat × Func) : Ctx := Bv8 Tryz.prog plGm [(49, Tryz.f49), (100, Tryz.f100), c] [] (spG f)
theorem Bg3 {f : Nat} {c : Nat × Func} (hc : FnIs Tryz.prog c) (h1 : Bbn Tryz.prog 137 (sp_ro f)) (h2 : Bbn Tryz.prog 98 (sp_fl f)) : CtxOk (D73 f c) := Bg9 Ban puGm (fns_cons is_must (fns_cons is_knock (fns_cons hc Fq))) Bir (Biq is_rolls.plain h1 is_flies.plain h2)
theorem Cy9 : Baz Tryz.prog 102 Cjo (sm_m1 53) := Bm6 (Bg3 is_Tick1 Bes Bet) 7 _ _ _ Cqz _ _ _ _ (fu_m1 53) (fun g => by kernel_rfl)
theorem Cya : Baz Tryz.prog 102 Cjs (sm_m2 53) := Bbc (Bg3 is_Tick1 Bes Bet) 7 _ _ _ Cr0 _ _ (fu_m2 53) (fun g => by kernel_rfl)
def lvE (l : TCT Bao) (t st : Int) (i : Nat) (s : S2) : S2 ⊕ Int := bif !Bat s.2.1 i (Bar .b) then bif !onB l (Bah s.1 i).1 then .inl (Bb7 s.1 i (D3e (Bah s.1 i)), Bb7 s.2.1 i true, s.2.2 ++ [kn t st 2 i 0]) else .inl s else .inl s
def C6k (f : Nat) (x : GB) : S2 ⊕ Int → Fp (C6j f)
 | .inl s => Cjt f x s
 | .inr _ => Cjt f x ([], [], [])
structure Inv2 (n k : Nat) (i : Nat) (s : S2) : Prop where
 m : s.1.length = n
 o : s.2.1.length = n
 k : s.2.2.length ≤ k + i
theorem Cjv {l : TCT Bao} {t st : Int} {n k : Nat} (i : Nat) (s s' : S2) (_ : i < n) (hi : Inv2 n k i s) (h : lvE l t st i s = .inl s') : Inv2 n k (i + 1) s' := by
 unfold lvE at h
 have hk := hi.k
 cases h1 : !Bat s.2.1 i (Bar .b) with
 | false => rw [h1] at h; cases h; exact ⟨hi.m, hi.o, by omega⟩
 | true =>
  rw [h1] at h
  cases h3 : !onB l (Bah s.1 i).1 with
  | false => rw [h3] at h; cases h; exact ⟨hi.m, hi.o, by omega⟩
  | true => rw [h3] at h; cases h; exact ⟨by rw [Bbf]; exact hi.m, by rw [Bbf]; exact hi.o, by simp; omega⟩
theorem D3f {f : Nat} {x : GB} {s : S2} {n k : Nat} (hn8 : n ≤ 8) (hk : k ≤ 900000) (hs : Inv2 n k 0 s) : iter (Cju f) (n + 1) (Bwz f x n 0 s) = some (C6k f x (Baw (lvE (gmL x.1) (gmT x.1) (gmS x.1)) 0 n s)) := by
 have hn : (n : Int) ≤ Bb2 .i64 := by show (n : Int) ≤ 9223372036854775807; omega
 refine Bf9 n (fun i s => Bwz f x n i s) (lvE (gmL x.1) (gmT x.1) (gmS x.1)) (C6k f x) (Inv2 n k) (fun i s hi hl => ?_) Cjv (fun s hl => ?_) n 0 s (by omega) hs
 ·show (Bt1 f (gb (gmU x.1 s.1 s.2.1) s.2.2) n i s.1 s.2.1 s.2.2).run = _
  unfold Bt1 lvE Cd4
  have h1 := hl.m
  have h2 := hl.o
  have h3 := hl.k
  rw [decide_eq_true (show (i : Int) < (n : Int) by omega), Bdt (by omega), Bdt (by omega), Bdt (by omega), Bdt (by omega), show Int.toNat (i : Int) = i from rfl, Bct hi hn, Bkm (by simp; omega) (by decide)]
  cases Bat s.2.1 i (Bar .b) with
  | true => rfl
  | false =>
   show (bif !onB (gmL x.1) (Bah s.1 i).1 then _ else _ : TM2 f).run = _
   simp only [Bool.not_false, cond_true]
   cases onB (gmL x.1) (Bah s.1 i).1 <;> rfl
 ·show (Bt1 f (gb (gmU x.1 s.1 s.2.1) s.2.2) n n s.1 s.2.1 s.2.2).run = _
  unfold Bt1
  rw [decide_eq_false (show ¬ (n : Int) < (n : Int) by omega)]
  rfl
end St
end V
end Go.Proofs.YtcfanlgpkefogaaGreat
namespace Go.Proofs.YtcfanlgpkefogaaGreat
open Go.RowKit
namespace V
theorem Bpo {S B : Type} {f : Nat → S → S ⊕ B} (h : ∀ i s, ∃ s', f i s = .inl s') : ∀ (k i : Nat) (s : S), ∃ s', Baw f i k s = .inl s'
 | 0, _, s => ⟨s, rfl⟩
 | k + 1, i, s => by
  obtain ⟨s', hs⟩ := h i s
  unfold Baw
  rw [hs]
  exact Bpo h k (i + 1) s'
namespace St
theorem C9w {l : TCT Bao} {t st : Int} (i : Nat) (s : S2) : ∃ s', lvE l t st i s = .inl s' := by
 unfold lvE
 cases !Bat s.2.1 i (Bar .b) with
 | false => exact ⟨_, rfl⟩
 | true => cases !onB l (Bah s.1 i).1 <;> exact ⟨_, rfl⟩
noncomputable def D74 (f : Nat) : Ctx := Bv8 Tryz.prog plGm [(102, Tryz.f102)] [((102, 1), sm_m1 f), ((102, 9), sm_m2 f)] (spG f)
theorem Cr1 {f : Nat} (h1 : Bbn Tryz.prog 137 (sp_ro f)) (h2 : Bbn Tryz.prog 98 (sp_fl f)) (hl : Baz Tryz.prog 102 Cjo (sm_m1 f)) (hm : Baz Tryz.prog 102 Cjs (sm_m2 f)) : CtxOk (D74 f) :=
 Bg9 Ban puGm (fns_cons is_gmove Fq) (Bdz (Bo0 (ds := [Cjo, Cjs]) (by kernel_rfl) ⟨Bhy (k := 1) (by kernel_rfl) rfl hl, Bhy (k := 9) (by kernel_rfl) rfl hm, trivial⟩) Bis) (Biq is_rolls.plain h1 is_flies.plain h2)
def mvF (bl : List (TCT No)) (l : TCT Bao) (t st : Int) (n : Nat) (s : S2) : S2 ⊕ Int := match Baw (stE bl s.2.1) 0 n s.1 with
 | .inl ms => Baw (lvE l t st) 0 n (ms, s.2.1, s.2.2)
 | .inr e => .inr e
def gs (x : GB) : S2 := (gmM x.1, gmO x.1, gk x)
def D3g (f : Nat) (x : GB) : Option (Fp (C27 f)) := iter (Cjr f) (nBx x.1 + 1) (Bwy f x (gmB x.1) (nBx x.1) 0 (gmM x.1))
def Cyb (f : Nat) (x : GB) : Option (Fp (C6j f)) := iter (Cju f) (nBx x.1 + 1) (Bwz f x (nBx x.1) 0 (gs x))
abbrev TU (f : Nat) := Tree (Bcw (FE_u f))
def Cvo (f : Nat) (y : Option (Fp (C6j f))) : TU f := bif isE (.exit 2) y then .leaf ⟨true, ((), (Bc4 (.exit 2) y).2)⟩ else .fail
def Cjw (f : Nat) (y : Option (Fp (C27 f))) : TU f := bif isP 49 .i64 y then .leaf ⟨false, pnU f (panO 49 .i64 y).1⟩ else bif isE (.exit 0) y then Cvo f (Cyb f (Bc4 (.exit 0) y).2) else .fail
def T_mv (f : Nat) (x : GB) : TU f := Cjw f (D3g f x)
def Bmu (x : GB) : Bool := Cjg x.1 && decide ((gk x).length ≤ 900000)
def C28 (x : GB) : Option (S2 ⊕ Int) := bif Bmu x then some (mvF (gmB x.1) (gmL x.1) (gmT x.1) (gmS x.1) (nBx x.1) (gs x)) else none
def Cjx (f : Nat) (x : GB) (s : S2) : (FE_u f true).T := mkU f (gb (gmU x.1 s.1 s.2.1) s.2.2)
abbrev sp_mv (f : Nat) : Baj → Nat → List AV → Tree (Out × Baj × Nat) := Bi9 Bif (FL_g f) (FE_u f) (Bsw (fun g : (FL_g f).T => C28 g.2) (fun g => Cjx f g.2) (pnU f) ([], [], []))
theorem Bt2 {x : GB} (h : Bmu x = true) : OkGM x.1 ∧ (gk x).length ≤ 900000 := by
 unfold Bmu at h
 simp only [Bool.and_eq_true, decide_eq_true_eq] at h
 exact ⟨Bfa.1 h.1, h.2⟩
theorem Cyc {f : Nat} {g : (FL_g f).T} {z : S2 ⊕ Int} (h : C28 g.2 = some z) : (T_mv f g.2).run = some (Bw1 (L := FL_g f) (E := FE_u f) (fun g => Cjx f g.2) (pnU f) g z) := by
 unfold C28 at h
 cases ho : Bmu g.2 with
 | false => rw [ho] at h; cases h
 | true =>
  rw [ho] at h
  cases h
  obtain ⟨hg, hk⟩ := Bt2 ho
  have hy : D3g f g.2 = some (Bpn f g.2 (Baw (stE (gmB g.2.1) (gmO g.2.1)) 0 (nBx g.2.1) (gmM g.2.1))) := D3d hg hg.ms
  unfold T_mv mvF
  rw [hy]
  show (Cjw f (some (Bpn f g.2 (Baw (stE (gmB g.2.1) (gmO g.2.1)) 0 (nBx g.2.1) (gmM g.2.1))))).run = some (Bw1 (L := FL_g f) (E := FE_u f) (fun g => Cjx f g.2) (pnU f) g (match Baw (stE (gmB g.2.1) (gmO g.2.1)) 0 (nBx g.2.1) (gmM g.2.1) with
   | .inl ms => Baw (lvE (gmL g.2.1) (gmT g.2.1) (gmS g.2.1)) 0 (nBx g.2.1) (ms, gmO g.2.1, gk g.2)
   | .inr e => .inr e))
  cases h1 : Baw (stE (gmB g.2.1) (gmO g.2.1)) 0 (nBx g.2.1) (gmM g.2.1) with
  | inr e =>
   have h1 : isP 49 .i64 (some (Bpn f g.2 (.inr e))) = true := Blg
   have h2 : panO 49 .i64 (some (Bpn f g.2 (.inr e))) = ⟨e, ((), ())⟩ := Bh9
   unfold Cjw
   rw [h1, h2]
   rfl
  | inl ms =>
   have hms : ms.length = nBx g.2.1 := Bb1 (n := nBx g.2.1) (Inv := fun _ (s : Bam) => s.length = nBx g.2.1) C6i (nBx g.2.1) 0 _ _ (by omega) hg.ms h1
   have hz : Cyb f (gb (gmU g.2.1 ms (gmO g.2.1)) (gk g.2)) = some (C6k f (gb (gmU g.2.1 ms (gmO g.2.1)) (gk g.2)) (Baw (lvE (gmL g.2.1) (gmT g.2.1) (gmS g.2.1)) 0 (nBx g.2.1) (ms, gmO g.2.1, gk g.2))) :=
    D3f (n := nBx g.2.1) (x := gb (gmU g.2.1 ms (gmO g.2.1)) (gk g.2)) (s := (ms, gmO g.2.1, gk g.2)) (k := (gk g.2).length) hg.n hk ⟨hms, hg.os, by simp⟩
   show (Cvo f (Cyb f (gb (gmU g.2.1 ms (gmO g.2.1)) (gk g.2)))).run = some (Bw1 (L := FL_g f) (E := FE_u f) (fun g => Cjx f g.2) (pnU f) g (Baw (lvE (gmL g.2.1) (gmT g.2.1) (gmS g.2.1)) 0 (nBx g.2.1) (ms, gmO g.2.1, gk g.2)))
   rw [hz]
   obtain ⟨s', hs'⟩ := Bpo (C9w (l := gmL g.2.1) (t := gmT g.2.1) (st := gmS g.2.1)) (nBx g.2.1) 0 (ms, gmO g.2.1, gk g.2)
   rw [hs']
   rfl
theorem Cr2 : Bbn Tryz.prog 102 (sp_mv 53) := Bpm (Cr1 Bes Bet Cy9 Cya) 6 Blj _ _ _ _ (fun g => T_mv 53 g.2) (fun g => by kernel_rfl) fun _ _ _ h => Cyc h
end St
end V
end Go.Proofs.YtcfanlgpkefogaaGreat
namespace Go.Proofs.YtcfanlgpkefogaaGreat
open Go.RowKit
namespace V
def Bpp (n : Nat) (p : TCT Bfj) : Prop := 0 ≤ p.1 ∧ p.1 < p.2.1 ∧ p.2.1 < (n : Int)
theorem Cjy {l : List (TCT No)} {re dr : Int} {i k n : Nat} {s s' : SS} (h : Bdm l re dr i k s = some s') (hik : i < k) (hk : k < n) (hs : ∀ p ∈ s.2, Bpp n p) : ∀ p ∈ s'.2, Bpp n p := by
 unfold Bdm at h
 cases h1 : (Bbm (bAt l s.1 i) (bAt l s.1 k) re dr).2.2.1 == 0 with
 | true =>
  rw [h1] at h
  simp only [cond_true, Option.some.injEq] at h
  subst h
  intro p hp
  rcases List.mem_append.1 hp with hp | hp
  ·exact hs p hp
  ·rw [List.mem_singleton] at hp
   subst hp
   exact ⟨Int.natCast_nonneg i, Int.ofNat_lt.2 hik, Int.ofNat_lt.2 hk⟩
 | false =>
  rw [h1, cond_false] at h
  cases h2 : (Bbm (bAt l s.1 i) (bAt l s.1 k) re dr).2.2.1 == 4 with
  | true => rw [h2] at h; simp at h
  | false => rw [h2] at h; simp only [cond_false, Option.some.injEq] at h; subst h; exact hs
theorem Cjz {l : List (TCT No)} {re dr : Int} {i n : Nat} : ∀ (f k : Nat) (s s' : SS), inR l re dr i f k s = some s' → i < k → k + f ≤ n → (∀ p ∈ s.2, Bpp n p) → ∀ p ∈ s'.2, Bpp n p
 | 0, k, s, s', h, _, _, hs => by rw [inR, Option.some.injEq] at h; subst h; exact hs
 | f + 1, k, s, s', h, hik, hk, hs => by
  rw [inR] at h
  cases h1 : Bdm l re dr i k s with
  | none => rw [h1] at h; simp at h
  | some s1 =>
   rw [h1, Option.bind_some] at h
   exact Cjz f (k + 1) s1 s' h (by omega) (by omega) (Cjy h1 hik (by omega) hs)
theorem C9x {l : List (TCT No)} {re dr : Int} : ∀ (f i : Nat) (s s' : SS), Bfq l re dr f i s = some s' → i + f = l.length → (∀ p ∈ s.2, Bpp l.length p) → (∀ p ∈ s'.2, Bpp l.length p) ∧ s'.1.length = s.1.length ∧ s'.2.length ≤ s.2.length + f * l.length
 | 0, i, s, s', h, _, hs => by rw [Biv, Option.some.injEq] at h; subst h; exact ⟨hs, rfl, by omega⟩
 | f + 1, i, s, s', h, hi, hs => by
  rw [Bh3] at h
  cases h1 : inR l re dr i (l.length - (i + 1)) (i + 1) s with
  | none => rw [h1] at h; simp at h
  | some s1 =>
   rw [h1, Option.bind_some] at h
   have a := Cb1 _ _ _ _ h1
   have b := C9x f (i + 1) s1 s' h (by omega) (Cjz _ _ _ _ h1 (by omega) (by omega) hs)
   refine ⟨b.1, b.2.1.trans a.1, ?_⟩
   have e : (f + 1) * l.length = f * l.length + l.length := Nat.succ_mul f l.length
   omega
theorem Cd5 {l : List (TCT No)} {s : List (TCT Bau)} {re dr : Int} (h : (Bbr l s re dr).2.2.1 = 0) (hl : l.length ≤ 8) : (Bbr l s re dr).1.length = s.length ∧ (Bbr l s re dr).2.1.length ≤ 64 ∧ ∀ p ∈ (Bbr l s re dr).2.1, Bpp l.length p := by
 unfold Bbr at h ⊢
 cases h1 : Bjf l s != 0 with
 | true => rw [h1, cond_true] at h; exact absurd h (bne_iff_ne.1 h1)
 | false =>
  rw [h1, cond_false] at h
  simp only [cond_false]
  cases h2 : !Bfi re dr with
  | true => rw [h2] at h; cases h
  | false =>
   rw [h2, cond_false] at h
   simp only [cond_false]
   cases h3 : Bfq l re dr l.length 0 (s, []) with
   | none => rw [h3] at h; cases h
   | some s' =>
    have a := C9x _ _ _ _ h3 (by omega) (fun p hp => nomatch hp)
    refine ⟨a.2.1, ?_, a.1⟩
    have b : s'.2.length ≤ 0 + l.length * l.length := a.2.2
    have c : l.length * l.length ≤ 8 * 8 := Nat.mul_le_mul hl hl
    show s'.2.length ≤ 64
    omega
end V
end Go.Proofs.YtcfanlgpkefogaaGreat
namespace Go.Proofs.YtcfanlgpkefogaaGreat
open Go.RowKit
namespace V
def unE {S : Type} : S ⊕ Empty → S
 | .inl s => s
 | .inr e => nomatch e
theorem Bgk {S : Type} (x : S ⊕ Empty) : x = .inl (unE x) := by
 cases x with
 | inl s => rfl
 | inr e => exact nomatch e
namespace St
abbrev kI : SK := .o 3 cI
abbrev kBa : SK := .o 70 No
abbrev kMo : SK := .o 60 Bau
noncomputable def C9y : Code := (Bak (bodyOf Tryz.f50)).getD 0 .skip
noncomputable def C9z : Code := (Bak (bodyOf Tryz.f50)).getD 1 .skip
noncomputable def Ca0 : Code := (Bak (bodyOf Tryz.f50)).getD 2 .skip
def Cd6 (f : Nat) : Lay := { keys := [0, 2, 3, 4, 18, 19, 20], ks := [.p 0 0 0 0, kI, kBa, kMo, .d (.sl No), .d cI, .d cI], bs := bsG f, n := 113, nx := 2000, marks := [] }
def D75 (f : Nat) : Lay := { keys := [0, 2, 3, 4], ks := [.p 0 0 0 0, kI, kBa, kMo], bs := bsG f, n := 113, nx := 2000, marks := [] }
def C6l (f : Nat) : XE → Lay := fun _ => D75 f
abbrev GA : Type := List Int × List (TCT No) × Bam
def Bo1 (f : Nat) (x : GB) (bl : List (TCT No)) (n i : Int) (s : GA) : (Cd6 f).T := (((), s.1, s.2.1, s.2.2, bl, n, i, ()), x)
def C29 (f : Nat) (x : GB) (s : GA) : Fp (C6l f) := ⟨.exit 0, (((), s.1, s.2.1, s.2.2, ()), x)⟩
abbrev TS1 (f : Nat) := Tree ((Cd6 f).T ⊕ Fp (C6l f))
def ap8 {β : Type} (w : List Int) (i : Int) (k : Tree β) : Tree β := bif Bd8 w [i] 8 then k else .fail
def Cr3 {β : Type} (w : List (TCT No)) (i : TCT No) (k : Tree β) : Tree β := bif Bd8 w [i] 16 then k else .fail
def Cr4 {β : Type} (w : Bam) (i : TCT Bau) (k : Tree β) : Tree β := bif Bd8 w [i] 48 then k else .fail
theorem Cyd {β : Type} {w : List Int} {i : Int} {k : Tree β} (h : w.length ≤ 1000) : ap8 w i k = k := by unfold ap8; rw [Bkm (by simp; omega) (by decide)]; rfl
theorem Cr5 {β : Type} {w : List (TCT No)} {i : TCT No} {k : Tree β} (h : w.length ≤ 1000) : Cr3 w i k = k := by unfold Cr3; rw [Bkm (by simp; omega) (by decide)]; rfl
theorem Cr6 {β : Type} {w : Bam} {i : TCT Bau} {k : Tree β} (h : w.length ≤ 1000) : Cr4 w i k = k := by unfold Cr4; rw [Bkm (by simp; omega) (by decide)]; rfl
def ga1 (i : Int) (b : TCT No) (m : TCT Bau) (s : GA) : GA := (s.1 ++ [i], s.2.1 ++ [b], s.2.2 ++ [m])
def C6m (f : Nat) (x : GB) (bl : List (TCT No)) (n i : Int) (s : GA) : TS1 f := bif decide (i < n) then inN bl.length i (inO (gmO x.1).length i (
 bif !Bat (gmO x.1) (Int.toNat i) (Bar .b) then bif !Bdp (gmW x.1) (gmF x.1) i then inO (gmM x.1).length i (ap8 s.1 i (Cr3 s.2.1 (Bd1 bl (Int.toNat i)) (Cr4 s.2.2 (Bah (gmM x.1) (Int.toNat i))
  (.leaf (.inl (Bo1 f x bl n (W64 (i + 1)) (ga1 i (Bd1 bl (Int.toNat i)) (Bah (gmM x.1) (Int.toNat i)) s)))))))
 else .leaf (.inl (Bo1 f x bl n (W64 (i + 1)) s)) else .leaf (.inl (Bo1 f x bl n (W64 (i + 1)) s)))) else .leaf (.inr (C29 f x s))
def Ck0 (f : Nat) (g : (Cd6 f).T) : TS1 f := C6m f g.2 g.1.2.2.2.2.1 g.1.2.2.2.2.2.1 g.1.2.2.2.2.2.2.1 (g.1.2.1, g.1.2.2.1, g.1.2.2.2.1)
def fu_s1 (f : Nat) (g : (Cd6 f).T) : Nat := Int.toNat g.1.2.2.2.2.2.1 + 1
def sm_s1 (f : Nat) : St → Tree (XE × St) := Bav (Cd6 f) (C6l f) (Bcn [.exit 0] (Ck0 f) (fu_s1 f))
theorem Ca1 {f : Nat} (e : XE) : (Cd6 f).nx ≤ (C6l f e).nx := Nat.le_refl _
def gaE (bl : List (TCT No)) (ms : Bam) (os : List Bool) (w fl : Int) (i : Nat) (s : GA) : GA ⊕ Empty := .inl (bif !Bat os i (Bar .b) && !Bdp w fl i then ga1 i (Bd1 bl i) (Bah ms i) s else s)
def gaV (bl : List (TCT No)) (w fl : Int) (n : Nat) (ms : Bam) (os : List Bool) : GA := unE (Baw (gaE bl ms os w fl) 0 n ([], [], []))
structure InvG (n i : Nat) (s : GA) : Prop where
 b : s.2.1.length = s.1.length
 m : s.2.2.length = s.1.length
 k : s.1.length ≤ i
 r : ∀ w ∈ s.1, 0 ≤ w ∧ w < (n : Int)
theorem C6n {bl : List (TCT No)} {ms : Bam} {os : List Bool} {w fl : Int} {n : Nat} (i : Nat) (s s' : GA) (hi : i < n) (h : InvG n i s) (h2 : gaE bl ms os w fl i s = .inl s') : InvG n (i + 1) s' := by
 unfold gaE at h2
 have hb := h.b
 have hm := h.m
 have hk := h.k
 cases hc : !Bat os i (Bar .b) && !Bdp w fl i with
 | false =>
  rw [hc] at h2
  simp only [cond_false, Sum.inl.injEq] at h2
  subst h2
  exact ⟨hb, hm, by omega, h.r⟩
 | true =>
  rw [hc] at h2
  simp only [cond_true, Sum.inl.injEq] at h2
  subst h2
  refine ⟨by simp [ga1, hb], by simp [ga1, hm], by simp [ga1]; omega, fun v hv => ?_⟩
  rcases List.mem_append.1 hv with hv | hv
  ·exact h.r v hv
  ·rw [List.mem_singleton] at hv; subst hv; omega
theorem Ca2 {bl : List (TCT No)} {w fl : Int} {n : Nat} {ms : Bam} {os : List Bool} : InvG n n (gaV bl w fl n ms os) :=
 Bb1 (n := n) (Inv := InvG n) C6n n 0 _ _ (by omega) ⟨rfl, rfl, Nat.le_refl _, fun _ h => absurd h List.not_mem_nil⟩ (Bgk (Baw (gaE bl ms os w fl) 0 n ([], [], [])))
def Cye (f : Nat) (x : GB) (r : GA ⊕ Empty) : Fp (C6l f) := C29 f x (unE r)
theorem D3h {f : Nat} {x : GB} (hx : OkGM x.1) : iter (Ck0 f) (nBx x.1 + 1) (Bo1 f x (gmB x.1) (nBx x.1) 0 ([], [], [])) = some (C29 f x (gaV (gmB x.1) (gmW x.1) (gmF x.1) (nBx x.1) (gmM x.1) (gmO x.1))) := by
 have hn8 := hx.n
 have hos := hx.os
 have hms := hx.ms
 have hn : (nBx x.1 : Int) ≤ Bb2 .i64 := by show (nBx x.1 : Int) ≤ 9223372036854775807; omega
 refine Bf9 (nBx x.1) (fun i s => Bo1 f x (gmB x.1) (nBx x.1) i s) (gaE (gmB x.1) (gmM x.1) (gmO x.1) (gmW x.1) (gmF x.1)) (Cye f x) (InvG (nBx x.1)) (fun i s hi hl => ?_) C6n (fun s hl => ?_) (nBx x.1) 0 ([], [], []) (by omega) ⟨rfl, rfl, Nat.le_refl _, fun _ h => absurd h List.not_mem_nil⟩
 ·show Tree.run (bif decide ((i : Int) < (nBx x.1 : Int)) then inN (nBx x.1) i (inO (gmO x.1).length i (
   bif !Bat (gmO x.1) i (Bar .b) then bif !Bdp (gmW x.1) (gmF x.1) i then inO (gmM x.1).length i (ap8 s.1 i (Cr3 s.2.1 (Bd1 (gmB x.1) i) (Cr4 s.2.2 (Bah (gmM x.1) i)
    (.leaf (.inl (Bo1 f x (gmB x.1) (nBx x.1) (W64 (i + 1)) (ga1 i (Bd1 (gmB x.1) i) (Bah (gmM x.1) i) s)))))))
   else .leaf (.inl (Bo1 f x (gmB x.1) (nBx x.1) (W64 (i + 1)) s)) else .leaf (.inl (Bo1 f x (gmB x.1) (nBx x.1) (W64 (i + 1)) s)))) else .leaf (.inr (C29 f x s)) : TS1 f) = _
  have h1 := hl.b
  have h2 := hl.m
  have h3 := hl.k
  rw [decide_eq_true (show (i : Int) < (nBx x.1 : Int) by omega), Bdb (by omega), Bdt (by omega), Bdt (by omega), Cyd (by omega), Cr5 (by omega), Cr6 (by omega), Bct hi hn]
  unfold gaE
  cases Bat (gmO x.1) i (Bar .b) with
  | true => rfl
  | false => cases Bdp (gmW x.1) (gmF x.1) i <;> rfl
 ·show (C6m f x (gmB x.1) (nBx x.1) (nBx x.1) s).run = _
  unfold C6m
  rw [decide_eq_false (show ¬ (nBx x.1 : Int) < (nBx x.1 : Int) by omega)]
  rfl
def Cd7 (f : Nat) : Lay := { keys := [0, 2, 4, 7, 75, 76, 77], ks := [.p 0 0 0 0, .d (.sl cI), .d (.sl Bau), .d (.sl Bfj), .d (.sl cI), .d cI, .d cI], bs := bsG f, n := 113, nx := 3000, marks := [] }
def D76 (f : Nat) : Lay := { keys := [0, 2, 7], ks := [.p 0 0 0 0, .d (.sl cI), .d (.sl Bfj)], bs := bsG f, n := 113, nx := 3000, marks := [] }
def C6o (f : Nat) : XE → Lay := fun _ => D76 f
abbrev Prs : Type := List (TCT Bfj)
def Ca3 (f : Nat) (x : GB) (W : List Int) (M : Bam) (P : Prs) (W2 : List Int) (n i : Int) (ms : Bam) : (Cd7 f).T := (((), W, M, P, W2, n, i, ()), gb (gmU x.1 ms (gmO x.1)) (gk x))
def Ck1 (f : Nat) (x : GB) (W : List Int) (P : Prs) (ms : Bam) : Fp (C6o f) := ⟨.exit 2, (((), W, P, ()), gb (gmU x.1 ms (gmO x.1)) (gk x))⟩
abbrev TS2 (f : Nat) := Tree ((Cd7 f).T ⊕ Fp (C6o f))
def Bt3 (f : Nat) (x : GB) (W : List Int) (M : Bam) (P : Prs) (W2 : List Int) (n i : Int) (ms : Bam) : TS2 f := bif decide (i < n) then inN W2.length i (inN M.length i (inO ms.length (Bat W2 (Int.toNat i) (Bar cI)) (
 .leaf (.inl (Ca3 f x W M P W2 n (W64 (i + 1)) (Bb7 ms (Int.toNat (Bat W2 (Int.toNat i) (Bar cI))) (Bah M (Int.toNat i)))))))) else .leaf (.inr (Ck1 f x W P ms))
def Ck2 (f : Nat) (g : (Cd7 f).T) : TS2 f := Bt3 f g.2 g.1.2.1 g.1.2.2.1 g.1.2.2.2.1 g.1.2.2.2.2.1 g.1.2.2.2.2.2.1 g.1.2.2.2.2.2.2.1 (gmM g.2.1)
def fu_s2 (f : Nat) (g : (Cd7 f).T) : Nat := Int.toNat g.1.2.2.2.2.2.1 + 1
def sm_s2 (f : Nat) : St → Tree (XE × St) := Bav (Cd7 f) (C6o f) (Bcn [.exit 2] (Ck2 f) (fu_s2 f))
theorem Ca4 {f : Nat} (e : XE) : (Cd7 f).nx ≤ (C6o f e).nx := Nat.le_refl _
def scE (W : List Int) (M : Bam) (i : Nat) (ms : Bam) : Bam ⊕ Empty := .inl (Bb7 ms (Int.toNat (Bat W i (Bar cI))) (Bah M i))
def scV (W : List Int) (M ms : Bam) : Bam := unE (Baw (scE W M) 0 W.length ms)
theorem Ck3 {W : List Int} {M : Bam} {n k : Nat} (i : Nat) (s s' : Bam) (_ : i < n) (h : s.length = k) (h2 : scE W M i s = .inl s') : s'.length = k := by
 cases h2
 rw [Bbf]; exact h
theorem Ca5 {W : List Int} {M ms : Bam} : (scV W M ms).length = ms.length :=
 Bb1 (n := W.length) (Inv := fun _ (s : Bam) => s.length = ms.length) Ck3 W.length 0 ms _ (by omega) rfl (Bgk (Baw (scE W M) 0 W.length ms))
def Cyf (f : Nat) (x : GB) (W : List Int) (P : Prs) (r : Bam ⊕ Empty) : Fp (C6o f) := Ck1 f x W P (unE r)
theorem D3i {f : Nat} {x : GB} {W : List Int} {M : Bam} {P : Prs} {ms : Bam} {n : Nat} (hW : ∀ w ∈ W, 0 ≤ w ∧ w < (n : Int)) (hM : M.length = W.length) (hms : ms.length = n) (hl : W.length ≤ 1000) :
  iter (Ck2 f) (W.length + 1) (Ca3 f x W M P W W.length 0 ms) = some (Ck1 f x W P (scV W M ms)) := by
 have hn : (W.length : Int) ≤ Bb2 .i64 := by show (W.length : Int) ≤ 9223372036854775807; omega
 refine Bf9 W.length (fun i s => Ca3 f x W M P W W.length i s) (scE W M) (Cyf f x W P) (fun _ s => s.length = n) (fun i s hi hs => ?_) Ck3 (fun s hs => ?_) W.length 0 ms (by omega) hms
 ·show (Bt3 f (gb (gmU x.1 s (gmO x.1)) (gk x)) W M P W W.length i s).run = _
  have hw := hW (Bat W i (Bar cI)) (by rw [Bcl hi]; exact List.getElem_mem hi)
  unfold Bt3
  rw [decide_eq_true (show (i : Int) < (W.length : Int) by omega), Bdb (by omega), Bdb (by omega), show Int.toNat (i : Int) = i from rfl, Bdt (by omega), Bct hi hn]
  rfl
 ·show (Bt3 f (gb (gmU x.1 s (gmO x.1)) (gk x)) W M P W W.length W.length s).run = _
  unfold Bt3
  rw [decide_eq_false (show ¬ (W.length : Int) < (W.length : Int) by omega)]
  rfl
def Cd8 (f : Nat) : Lay := { keys := [0, 2, 94, 95, 96], ks := [.p 0 0 0 0, .d (.sl cI), .d (.sl Bfj), .d cI, .d cI], bs := bsG f, n := 113, nx := 4000, marks := [] }
def D77 (f : Nat) : Lay := { keys := [], ks := [], bs := bsG f, n := 113, nx := 4000, marks := [] }
def C6p (f : Nat) : XE → Lay := fun _ => D77 f
def Ca6 (f : Nat) (x : GB) (W : List Int) (P : Prs) (n i : Int) (ks : Kns) : (Cd8 f).T := (((), W, P, n, i, ()), gb x.1 ks)
def Ck4 (f : Nat) (x : GB) (ks : Kns) : Fp (C6p f) := ⟨.exit 4, ((), gb x.1 ks)⟩
abbrev TS3 (f : Nat) := Tree ((Cd8 f).T ⊕ Fp (C6p f))
def Bit (P : Prs) (i : Nat) : TCT Bfj := Bat P i (Bar Bfj)
def knP (t st : Int) (W : List Int) (p : TCT Bfj) : TCT cKn := kn t st 0 (Bat W (Int.toNat p.1) (Bar cI)) (Bat W (Int.toNat p.2.1) (Bar cI))
def Bt4 (f : Nat) (x : GB) (W : List Int) (P : Prs) (n i : Int) (ks : Kns) : TS3 f := bif decide (i < n) then inN P.length i (inN W.length (Bit P (Int.toNat i)).1 (inN W.length (Bit P (Int.toNat i)).2.1 (
 Cd4 ks (knP (gmT x.1) (gmS x.1) W (Bit P (Int.toNat i))) fun ks' => .leaf (.inl (Ca6 f x W P n (W64 (i + 1)) ks'))))) else .leaf (.inr (Ck4 f x ks))
def Ck5 (f : Nat) (g : (Cd8 f).T) : TS3 f := Bt4 f g.2 g.1.2.1 g.1.2.2.1 g.1.2.2.2.1 g.1.2.2.2.2.1 (gk g.2)
def fu_s3 (f : Nat) (g : (Cd8 f).T) : Nat := Int.toNat g.1.2.2.2.1 + 1
def sm_s3 (f : Nat) : St → Tree (XE × St) := Bav (Cd8 f) (C6p f) (Bcn [.exit 4] (Ck5 f) (fu_s3 f))
theorem Ca7 {f : Nat} (e : XE) : (Cd8 f).nx ≤ (C6p f e).nx := Nat.le_refl _
def kpE (W : List Int) (P : Prs) (t st : Int) (i : Nat) (ks : Kns) : Kns ⊕ Empty := .inl (ks ++ [knP t st W (Bit P i)])
def kpV (W : List Int) (P : Prs) (t st : Int) (ks : Kns) : Kns := unE (Baw (kpE W P t st) 0 P.length ks)
theorem Ck6 {W : List Int} {P : Prs} {t st : Int} {n k : Nat} (i : Nat) (s s' : Kns) (_ : i < n) (h : s.length = k + i) (h2 : kpE W P t st i s = .inl s') : s'.length = k + (i + 1) := by
 cases h2
 simp only [List.length_append, List.length_singleton]
 omega
theorem Ca8 {W : List Int} {P : Prs} {t st : Int} {ks : Kns} : (kpV W P t st ks).length = ks.length + P.length :=
 Bb1 (n := P.length) (Inv := fun i (s : Kns) => s.length = ks.length + i) Ck6 P.length 0 ks _ (by omega) rfl (Bgk (Baw (kpE W P t st) 0 P.length ks))
def Cyg (f : Nat) (x : GB) (r : Kns ⊕ Empty) : Fp (C6p f) := Ck4 f x (unE r)
theorem D3j {f : Nat} {x : GB} {W : List Int} {P : Prs} {ks : Kns} (hP : ∀ p ∈ P, Bpp W.length p) (hk : ks.length ≤ 900000) (hl : P.length ≤ 1000) :
  iter (Ck5 f) (P.length + 1) (Ca6 f x W P P.length 0 ks) = some (Ck4 f x (kpV W P (gmT x.1) (gmS x.1) ks)) := by
 have hn : (P.length : Int) ≤ Bb2 .i64 := by show (P.length : Int) ≤ 9223372036854775807; omega
 refine Bf9 P.length (fun i s => Ca6 f x W P P.length i s) (kpE W P (gmT x.1) (gmS x.1)) (Cyg f x) (fun i s => s.length = ks.length + i) (fun i s hi hs => ?_) Ck6 (fun s hs => ?_) P.length 0 ks (by omega) rfl
 ·show (Bt4 f (gb x.1 s) W P P.length i s).run = _
  have hp := hP (Bit P i) (by unfold Bit; rw [Bcl hi]; exact List.getElem_mem hi)
  unfold Bt4 Cd4
  rw [decide_eq_true (show (i : Int) < (P.length : Int) by omega), Bdb (by omega), show Int.toNat (i : Int) = i from rfl, Bdb ⟨hp.1, Int.lt_trans hp.2.1 hp.2.2⟩, Bdb ⟨Int.le_trans hp.1 (Int.le_of_lt hp.2.1), hp.2.2⟩, Bkm (by simp; omega) (by decide), Bct hi hn]
  rfl
 ·show (Bt4 f (gb x.1 s) W P P.length P.length s).run = _
  unfold Bt4
  rw [decide_eq_false (show ¬ (P.length : Int) < (P.length : Int) by omega)]
  rfl
theorem Cyh : Baz Tryz.prog 50 C9y (sm_s1 53) := Bbc (Bg3 is_Tick1 Bes Bet) 7 _ _ _ Ca1 _ _ (fu_s1 53) (fun g => by kernel_rfl)
theorem Cyi : Baz Tryz.prog 50 C9z (sm_s2 53) := Bbc (Bg3 is_Tick1 Bes Bet) 7 _ _ _ Ca4 _ _ (fu_s2 53) (fun g => by kernel_rfl)
theorem Cyj : Baz Tryz.prog 50 Ca0 (sm_s3 53) := Bbc (Bg3 is_Tick1 Bes Bet) 7 _ _ _ Ca7 _ _ (fu_s3 53) (fun g => by kernel_rfl)
theorem Cyk : Baz Tryz.prog 50 C9y (sm_s1 46) := Bbc (Bg3 is_Strike1 Brs Brt) 7 _ _ _ Ca1 _ _ (fu_s1 46) (fun g => by kernel_rfl)
theorem Cyl : Baz Tryz.prog 50 C9z (sm_s2 46) := Bbc (Bg3 is_Strike1 Brs Brt) 7 _ _ _ Ca4 _ _ (fu_s2 46) (fun g => by kernel_rfl)
theorem Cym : Baz Tryz.prog 50 Ca0 (sm_s3 46) := Bbc (Bg3 is_Strike1 Brs Brt) 7 _ _ _ Ca7 _ _ (fu_s3 46) (fun g => by kernel_rfl)
end St
end V
end Go.Proofs.YtcfanlgpkefogaaGreat
namespace Go.Proofs.YtcfanlgpkefogaaGreat
open Go.RowKit
namespace V
namespace St
def gmC (m : GM) : TCT Bbw := (m.2.2.2.2.2.2.2.2.2.2.2.2.1, m.2.2.2.2.2.2.2.2.2.2.2.2.2.1, ())
noncomputable def Bz0 (f : Nat) : Ctx := Bv8 Tryz.prog plGm [(50, Tryz.f50), (49, Tryz.f49)] [((50, 4), sm_s1 f), ((50, 12), sm_s2 f), ((50, 17), sm_s3 f)] (spG f)
theorem Ca9 {f : Nat} (h1 : Bbn Tryz.prog 137 (sp_ro f)) (h2 : Bbn Tryz.prog 98 (sp_fl f)) (l1 : Baz Tryz.prog 50 C9y (sm_s1 f)) (l2 : Baz Tryz.prog 50 C9z (sm_s2 f)) (l3 : Baz Tryz.prog 50 Ca0 (sm_s3 f)) : CtxOk (Bz0 f) :=
 Bg9 Ban puGm (fns_cons is_gsettle (fns_cons is_must Fq)) (Bdz (Bo0 (ds := [C9y, C9z, Ca0]) (by kernel_rfl) ⟨Bhy (k := 4) (by kernel_rfl) rfl l1, Bhy (k := 12) (by kernel_rfl) rfl l2, Bhy (k := 17) (by kernel_rfl) rfl l3, trivial⟩) (Bdz (Bt0 (by kernel_rfl)) Bis)) (Biq is_rolls.plain h1 is_flies.plain h2)
def seG (bl : List (TCT No)) (w fl : Int) (n : Nat) (s : S2) : GA := gaV bl w fl n s.1 s.2.1
def seS (bl : List (TCT No)) (bc : TCT Bbw) (w fl : Int) (n : Nat) (s : S2) : Cta := Bbr (seG bl w fl n s).2.1 (seG bl w fl n s).2.2 bc.1 bc.2.1
def seF (bl : List (TCT No)) (bc : TCT Bbw) (t st w fl : Int) (n : Nat) (s : S2) : (Bam × Kns) ⊕ Int :=
 bif (seS bl bc w fl n s).2.2.1 != 0 then .inr (seS bl bc w fl n s).2.2.1 else .inl (scV (seG bl w fl n s).1 (seS bl bc w fl n s).1 s.1, kpV (seG bl w fl n s).1 (seS bl bc w fl n s).2.1 t st s.2.2)
def Cvp (f : Nat) (y : Option (Fp (C6p f))) : TU f := bif isE (.exit 4) y then .leaf ⟨true, ((), (Bc4 (.exit 4) y).2)⟩ else .fail
def Cyn (f : Nat) (x : GB) (W : List Int) (P : Prs) : Option (Fp (C6p f)) := iter (Ck5 f) (P.length + 1) (Ca6 f x W P P.length 0 (gk x))
def D3k (f : Nat) (y : Option (Fp (C6o f))) : TU f := bif isE (.exit 2) y then Cvp f (Cyn f (Bc4 (.exit 2) y).2 (Bc4 (.exit 2) y).1.2.1 (Bc4 (.exit 2) y).1.2.2.1) else .fail
def D3l (f : Nat) (x : GB) (W : List Int) (M : Bam) (P : Prs) : Option (Fp (C6o f)) := iter (Ck2 f) (W.length + 1) (Ca3 f x W M P W W.length 0 (gmM x.1))
def C6q (f : Nat) (x : GB) (W : List Int) (r : Cta) : TU f := bif r.2.2.1 != 0 then .leaf ⟨false, pnU f r.2.2.1⟩ else D3k f (D3l f x W r.1 r.2.1)
def D3m (f : Nat) (y : Option (Fp (C6l f))) : TU f := bif isE (.exit 0) y then C6q f (Bc4 (.exit 0) y).2 (Bc4 (.exit 0) y).1.2.1 (Bbr (Bc4 (.exit 0) y).1.2.2.1 (Bc4 (.exit 0) y).1.2.2.2.1 (gmC (Bc4 (.exit 0) y).2.1).1 (gmC (Bc4 (.exit 0) y).2.1).2.1) else .fail
def D3n (f : Nat) (x : GB) : Option (Fp (C6l f)) := iter (Ck0 f) (nBx x.1 + 1) (Bo1 f x (gmB x.1) (nBx x.1) 0 ([], [], []))
def T_se (f : Nat) (x : GB) : TU f := D3m f (D3n f x)
def Bmv (x : GB) : Option ((Bam × Kns) ⊕ Int) := bif Bmu x then some (seF (gmB x.1) (gmC x.1) (gmT x.1) (gmS x.1) (gmW x.1) (gmF x.1) (nBx x.1) (gs x)) else none
def C2a (f : Nat) (x : GB) (s : Bam × Kns) : (FE_u f true).T := mkU f (gb (gmU x.1 s.1 (gmO x.1)) s.2)
abbrev sp_se (f : Nat) : Baj → Nat → List AV → Tree (Out × Baj × Nat) := Bi9 Bif (FL_g f) (FE_u f) (Bsw (fun g : (FL_g f).T => Bmv g.2) (fun g => C2a f g.2) (pnU f) ([], []))
theorem Bpq {bl : List (TCT No)} {bc : TCT Bbw} {w fl : Int} {n : Nat} {s : S2} (hn : n ≤ 8) (h : (seS bl bc w fl n s).2.2.1 = 0) : (seS bl bc w fl n s).1.length = (seG bl w fl n s).1.length ∧ (seS bl bc w fl n s).2.1.length ≤ 64 ∧ ∀ p ∈ (seS bl bc w fl n s).2.1, Bpp (seG bl w fl n s).1.length p := by
 have hg : InvG n n (seG bl w fl n s) := Ca2
 have a := Cd5 (l := (seG bl w fl n s).2.1) (s := (seG bl w fl n s).2.2) (re := bc.1) (dr := bc.2.1) h (by rw [hg.b]; have := hg.k; omega)
 rw [hg.b] at a
 exact ⟨a.1.trans hg.m, a.2.1, a.2.2⟩
theorem Ck7 {f : Nat} {g : (FL_g f).T} {z : (Bam × Kns) ⊕ Int} (h : Bmv g.2 = some z) : (T_se f g.2).run = some (Bw1 (L := FL_g f) (E := FE_u f) (fun g => C2a f g.2) (pnU f) g z) := by
 unfold Bmv at h
 cases ho : Bmu g.2 with
 | false => rw [ho] at h; cases h
 | true =>
  rw [ho] at h
  cases h
  obtain ⟨hg, hk⟩ := Bt2 ho
  unfold T_se
  rw [show D3n f g.2 = some (C29 f g.2 (seG (gmB g.2.1) (gmW g.2.1) (gmF g.2.1) (nBx g.2.1) (gs g.2))) from D3h hg]
  show (C6q f g.2 (seG (gmB g.2.1) (gmW g.2.1) (gmF g.2.1) (nBx g.2.1) (gs g.2)).1 (seS (gmB g.2.1) (gmC g.2.1) (gmW g.2.1) (gmF g.2.1) (nBx g.2.1) (gs g.2))).run = _
  unfold seF C6q
  have hn8 := hg.n
  cases he : (seS (gmB g.2.1) (gmC g.2.1) (gmW g.2.1) (gmF g.2.1) (nBx g.2.1) (gs g.2)).2.2.1 != 0 with
  | true => rfl
  | false =>
   have hs := Bpq hn8 (bne_eq_false_iff_eq.1 he)
   have hi : InvG (nBx g.2.1) (nBx g.2.1) (seG (gmB g.2.1) (gmW g.2.1) (gmF g.2.1) (nBx g.2.1) (gs g.2)) := Ca2
   have hik := hi.k
   simp only [cond_false]
   rw [show D3l f g.2 (seG (gmB g.2.1) (gmW g.2.1) (gmF g.2.1) (nBx g.2.1) (gs g.2)).1 (seS (gmB g.2.1) (gmC g.2.1) (gmW g.2.1) (gmF g.2.1) (nBx g.2.1) (gs g.2)).1 (seS (gmB g.2.1) (gmC g.2.1) (gmW g.2.1) (gmF g.2.1) (nBx g.2.1) (gs g.2)).2.1 = _ from D3i hi.r hs.1 hg.ms (by omega)]
   show (Cvp f (Cyn f (gb (gmU g.2.1 (scV (seG (gmB g.2.1) (gmW g.2.1) (gmF g.2.1) (nBx g.2.1) (gs g.2)).1 (seS (gmB g.2.1) (gmC g.2.1) (gmW g.2.1) (gmF g.2.1) (nBx g.2.1) (gs g.2)).1 (gmM g.2.1)) (gmO g.2.1)) (gk g.2)) (seG (gmB g.2.1) (gmW g.2.1) (gmF g.2.1) (nBx g.2.1) (gs g.2)).1 (seS (gmB g.2.1) (gmC g.2.1) (gmW g.2.1) (gmF g.2.1) (nBx g.2.1) (gs g.2)).2.1)).run = _
   have hs64 := hs.2.1
   rw [show Cyn f (gb (gmU g.2.1 (scV (seG (gmB g.2.1) (gmW g.2.1) (gmF g.2.1) (nBx g.2.1) (gs g.2)).1 (seS (gmB g.2.1) (gmC g.2.1) (gmW g.2.1) (gmF g.2.1) (nBx g.2.1) (gs g.2)).1 (gmM g.2.1)) (gmO g.2.1)) (gk g.2)) (seG (gmB g.2.1) (gmW g.2.1) (gmF g.2.1) (nBx g.2.1) (gs g.2)).1 (seS (gmB g.2.1) (gmC g.2.1) (gmW g.2.1) (gmF g.2.1) (nBx g.2.1) (gs g.2)).2.1 = _ from D3j (x := gb (gmU g.2.1 (scV (seG (gmB g.2.1) (gmW g.2.1) (gmF g.2.1) (nBx g.2.1) (gs g.2)).1 (seS (gmB g.2.1) (gmC g.2.1) (gmW g.2.1) (gmF g.2.1) (nBx g.2.1) (gs g.2)).1 (gmM g.2.1)) (gmO g.2.1)) (gk g.2)) hs.2.2 hk (by omega)]
   rfl
theorem Cr7 : Bbn Tryz.prog 50 (sp_se 53) := Bpm (Ca9 Bes Bet Cyh Cyi Cyj) 6 Blj _ _ _ _ (fun g => T_se 53 g.2) (fun g => by kernel_rfl) fun _ _ _ h => Ck7 h
theorem Cr8 : Bbn Tryz.prog 50 (sp_se 46) := Bpm (Ca9 Brs Brt Cyk Cyl Cym) 6 Blj _ _ _ _ (fun g => T_se 46 g.2) (fun g => by kernel_rfl) fun _ _ _ h => Ck7 h
end St
end V
end Go.Proofs.YtcfanlgpkefogaaGreat
namespace Go.Proofs.YtcfanlgpkefogaaGreat
open Go.RowKit
namespace V
namespace St
noncomputable def C2b : Code := (Bak (bodyOf Tryz.f103)).getD 0 .skip
noncomputable def Bx0 : Code := (Bak (bodyOf Tryz.f103)).getD 1 .skip
abbrev kBb : List SK := [.d cI, .d cI]
def C6r (f : Nat) : Lay := { keys := [0, 2, 3, 13, 14, 15, 24, 25, 26], ks := [.p 0 0 0 0, .d cI, .p 2002 0 0 0, .d (.sl No), .d cI, .d cI, .d (.sl Baf), .d cI, .d cI], bs := [(0, 137, kGm f), (1, 48, [.o 58 cKn]), (2002, 70, kBb)], n := 81, nx := 3000, marks := [] }
def D3o (f : Nat) : Lay := { keys := [0, 13, 14, 15], ks := [.p 0 0 0 0, .d (.sl No), .d cI, .d cI], bs := bsG f, n := 81, nx := 3000, marks := [] }
def D3p : Lay := { keys := [], ks := [], bs := [], n := 81, nx := 4000, marks := [] }
def C2c (f : Nat) : XE → Lay := fun e => match e with | .panic _ => D3p | _ => D3o f
def C6s (f : Nat) : Lay := { keys := [0, 13, 14, 15], ks := [.p 0 0 0 0, .d (.sl No), .d cI, .d cI], bs := bsG f, n := 81, nx := 2000, marks := [] }
def D78 (f : Nat) : Lay := { keys := [], ks := [], bs := bsG f, n := 81, nx := 2000, marks := [] }
def C6t (f : Nat) : XE → Lay := fun e => match e with | .panic _ => D3p | _ => D78 f
theorem Cr9 {f : Nat} (e : XE) : (C6r f).nx ≤ (C2c f e).nx := by cases e <;> first | exact Nat.le_refl _ | exact (by decide : (3000 : Nat) ≤ 4000)
theorem Cra {f : Nat} (e : XE) : (C6s f).nx ≤ (C6t f e).nx := by cases e <;> first | exact Nat.le_refl _ | exact (by decide : (2000 : Nat) ≤ 4000)
abbrev Dss : Type := List (TCT Baf)
abbrev MK : Type := Bam × Kns
def Bdu (ps : Dss) (i : Nat) : TCT Baf := Bat ps i (Bar Baf)
def bmV (b : TCT No) (m : TCT Bau) (d : TCT Baf) (c : TCT Bbw) : TCTs [Bau, cI] := C3n (bm b m) d.1.1 d.1.2.1 d.2.1 c.1 c.2.1
structure Cb where
 i : Int
 b : TCT No
 bl : List (TCT No)
 n1 : Int
 i1 : Int
 ps : Dss
def gmb (m : GM) (k : Kns) (b : TCT No) : GM × SKTs [.o 0 cKn] × SKTs kBb × Unit := (m, (k, ()), b, ())
def C2d (f : Nat) (x : GB) (c : Cb) (n k : Int) (s : MK) : (C6r f).T := (((), c.i, (), c.bl, c.n1, c.i1, c.ps, n, k, ()), gmb (gmU x.1 s.1 (gmO x.1)) s.2 c.b)
def Bt5 (f : Nat) (x : GB) (c : Cb) (s : MK) : Fp (C2c f) := ⟨.exit 2, (((), c.bl, c.n1, c.i1, ()), gb (gmU x.1 s.1 (gmO x.1)) s.2)⟩
def C2e (f : Nat) (e : Int) : Fp (C2c f) := ⟨.panic (.ifc 49 (.int .i64 e)), ((), ())⟩
abbrev TB2 (f : Nat) := Tree ((C6r f).T ⊕ Fp (C2c f))
def C6u (f : Nat) (x : GB) (c : Cb) (n k : Int) (s : MK) (r : TCTs [Bau, cI]) : TB2 f :=
 bif r.2.1 == 0 then inO s.1.length c.i (Cd4 s.2 (kn (gmT x.1) (gmS x.1) 1 c.i k) fun ks => .leaf (.inl (C2d f x c n (W64 (k + 1)) (Bb7 s.1 (Int.toNat c.i) r.1, ks))))
 else bif r.2.1 == 4 then .leaf (.inr (C2e f r.2.1)) else .leaf (.inl (C2d f x c n (W64 (k + 1)) s))
def Bt6 (f : Nat) (x : GB) (c : Cb) (n k : Int) (s : MK) : TB2 f := bif decide (k < n) then inN c.ps.length k (bif Bw0 s.1 (gmO x.1) c.i then
 bif !Bbs s.1 (gmO x.1) (Int.toNat c.i) then .leaf (.inr (Bt5 f x c s)) else bif Bdp (gmW x.1) (gmF x.1) c.i then .leaf (.inr (Bt5 f x c s)) else
 inO s.1.length c.i (C6u f x c n k s (bmV c.b (Bah s.1 (Int.toNat c.i)) (Bdu c.ps (Int.toNat k)) (gmC x.1))) else .fail) else .leaf (.inr (Bt5 f x c s))
def cb (f : Nat) (g : (C6r f).T) : Cb := ⟨g.1.2.1, g.2.2.2.1, g.1.2.2.2.1, g.1.2.2.2.2.1, g.1.2.2.2.2.2.1, g.1.2.2.2.2.2.2.1⟩
def Ck8 (f : Nat) (g : (C6r f).T) : TB2 f := Bt6 f (gb g.2.1 g.2.2.1.1) (cb f g) g.1.2.2.2.2.2.2.2.1 g.1.2.2.2.2.2.2.2.2.1 (gmM g.2.1, g.2.2.1.1)
def fu_b2 (f : Nat) (g : (C6r f).T) : Nat := Int.toNat g.1.2.2.2.2.2.2.2.1 + 1
def sm_b2 (f : Nat) : St → Tree (XE × St) := Bav (C6r f) (C2c f) (finP 49 .i64 [.exit 2] (Ck8 f) (fu_b2 f))
def bpE (b : TCT No) (c : TCT Bbw) (ps : Dss) (os : List Bool) (w fl t st : Int) (i : Nat) (k : Nat) (s : MK) : MK ⊕ (MK ⊕ Int) :=
 bif !Bbs s.1 os i || Bdp w fl i then .inr (.inl s) else
 bif (bmV b (Bah s.1 i) (Bdu ps k) c).2.1 == 0 then .inl (Bb7 s.1 i (bmV b (Bah s.1 i) (Bdu ps k) c).1, s.2 ++ [kn t st 1 i k]) else
 bif (bmV b (Bah s.1 i) (Bdu ps k) c).2.1 == 4 then .inr (.inr (bmV b (Bah s.1 i) (Bdu ps k) c).2.1) else .inl s
def Bz1 : MK ⊕ (MK ⊕ Int) → MK ⊕ Int
 | .inl s => .inl s
 | .inr x => x
def Bz2 (f : Nat) (x : GB) (c : Cb) (r : MK ⊕ (MK ⊕ Int)) : Fp (C2c f) := match Bz1 r with
 | .inl s => Bt5 f x c s
 | .inr e => C2e f e
structure InvK (n k : Nat) (i : Nat) (s : MK) : Prop where
 m : s.1.length = n
 k : s.2.length ≤ k + i
theorem Ck9 {b : TCT No} {c : TCT Bbw} {ps : Dss} {os : List Bool} {w fl t st : Int} {i n k0 m : Nat} (k : Nat) (s s' : MK) (_ : k < m) (hi : InvK n k0 k s) (h : bpE b c ps os w fl t st i k s = .inl s') : InvK n k0 (k + 1) s' := by
 unfold bpE at h
 have hk := hi.k
 cases h1 : !Bbs s.1 os i || Bdp w fl i with
 | true => rw [h1] at h; cases h
 | false =>
  rw [h1] at h
  cases h2 : (bmV b (Bah s.1 i) (Bdu ps k) c).2.1 == 0 with
  | true => rw [h2] at h; cases h; exact ⟨by rw [Bbf]; exact hi.m, by simp; omega⟩
  | false =>
   rw [h2] at h
   cases h3 : (bmV b (Bah s.1 i) (Bdu ps k) c).2.1 == 4 with
   | true => rw [h3] at h; cases h
   | false => rw [h3] at h; cases h; exact ⟨hi.m, by omega⟩
theorem D3q {f : Nat} {x : GB} {c : Cb} {i n k0 : Nat} {s : MK} (hci : c.i = (i : Int)) (hi : i < n) (hos : (gmO x.1).length = n) (hs : InvK n k0 0 s) (hk0 : k0 ≤ 990000) (hps : c.ps.length ≤ 1000) :
  iter (Ck8 f) (c.ps.length + 1) (C2d f x c c.ps.length 0 s) = some (Bz2 f x c (Baw (bpE c.b (gmC x.1) c.ps (gmO x.1) (gmW x.1) (gmF x.1) (gmT x.1) (gmS x.1) i) 0 c.ps.length s)) := by
 have hn : (c.ps.length : Int) ≤ Bb2 .i64 := by show (c.ps.length : Int) ≤ 9223372036854775807; omega
 refine Bf9 c.ps.length (fun k s => C2d f x c c.ps.length k s) (bpE c.b (gmC x.1) c.ps (gmO x.1) (gmW x.1) (gmF x.1) (gmT x.1) (gmS x.1) i) (Bz2 f x c) (InvK n k0) (fun k s hk hl => ?_) Ck9 (fun s hl => ?_) c.ps.length 0 s (by omega) hs
 ·show (Bt6 f (gb (gmU x.1 s.1 (gmO x.1)) s.2) c c.ps.length k s).run = _
  have h1 := hl.m
  have h2 := hl.k
  unfold Bt6
  show Tree.run (bif decide ((k : Int) < (c.ps.length : Int)) then inN c.ps.length k (bif Bw0 s.1 (gmO x.1) c.i then
   bif !Bbs s.1 (gmO x.1) (Int.toNat c.i) then .leaf (.inr (Bt5 f x c s)) else bif Bdp (gmW x.1) (gmF x.1) c.i then .leaf (.inr (Bt5 f x c s)) else
   inO s.1.length c.i (C6u f x c c.ps.length k s (bmV c.b (Bah s.1 (Int.toNat c.i)) (Bdu c.ps k) (gmC x.1))) else .fail) else .leaf (.inr (Bt5 f x c s)) : TB2 f) = _
  rw [hci, decide_eq_true (show (k : Int) < (c.ps.length : Int) by omega), Bdb (by omega), Byz hi h1 hos, Bdt (by omega), show Int.toNat (i : Int) = i from rfl]
  unfold C6u bpE Cd4
  rw [hci, Bdt (by omega), Bkm (by simp; omega) (by decide), Bct hk hn, show Int.toNat (i : Int) = i from rfl]
  cases Bbs s.1 (gmO x.1) i with
  | false => rfl
  | true =>
   cases Bdp (gmW x.1) (gmF x.1) i with
   | true => rfl
   | false =>
    simp only [Bool.not_true, Bool.or_self, cond_true, cond_false]
    cases (bmV c.b (Bah s.1 i) (Bdu c.ps k) (gmC x.1)).2.1 == 0 with
    | true => rfl
    | false =>
     simp only [cond_false]
     cases (bmV c.b (Bah s.1 i) (Bdu c.ps k) (gmC x.1)).2.1 == 4 <;> rfl
 ·show (Bt6 f (gb (gmU x.1 s.1 (gmO x.1)) s.2) c c.ps.length c.ps.length s).run = _
  unfold Bt6
  rw [decide_eq_false (show ¬ (c.ps.length : Int) < (c.ps.length : Int) by omega)]
  rfl
def Cka (f : Nat) (x : GB) (bl : List (TCT No)) (n i : Int) (s : MK) : (C6s f).T := (((), bl, n, i, ()), gb (gmU x.1 s.1 (gmO x.1)) s.2)
def Cvq (f : Nat) (x : GB) (s : MK) : Fp (C6t f) := ⟨.exit 0, ((), gb (gmU x.1 s.1 (gmO x.1)) s.2)⟩
def Cvr (f : Nat) (e : Int) : Fp (C6t f) := ⟨.panic (.ifc 49 (.int .i64 e)), ((), ())⟩
abbrev TB1 (f : Nat) := Tree ((C6s f).T ⊕ Fp (C6t f))
def D3r (f : Nat) (r : (D3o f).T) : (C6s f).T := (((), r.1.2.1, r.1.2.2.1, W64 (r.1.2.2.2.1 + 1), ()), r.2)
def Ckb (f : Nat) (y : Option (Fp (C2c f))) : TB1 f := bif isP 49 .i64 y then .leaf (.inr (Cvr f (panO 49 .i64 y).1)) else bif isE (.exit 2) y then .leaf (.inl (D3r f (Bc4 (.exit 2) y))) else .fail
def D3s (f : Nat) (x : GB) (c : Cb) : Option (Fp (C2c f)) := iter (Ck8 f) (c.ps.length + 1) (C2d f x c c.ps.length 0 (gmM x.1, gk x))
def cb1 (x : GB) (bl : List (TCT No)) (n i : Int) : Cb := ⟨i, Bd1 bl (Int.toNat i), bl, n, i, gmP x.1⟩
def Bt7 (f : Nat) (x : GB) (bl : List (TCT No)) (n i : Int) : TB1 f := bif decide (i < n) then inN bl.length i (Ckb f (D3s f x (cb1 x bl n i))) else .leaf (.inr (Cvq f x (gmM x.1, gk x)))
def Ckc (f : Nat) (g : (C6s f).T) : TB1 f := Bt7 f g.2 g.1.2.1 g.1.2.2.1 g.1.2.2.2.1
def fu_b1 (f : Nat) (g : (C6s f).T) : Nat := Int.toNat g.1.2.2.1 + 1
def sm_b1 (f : Nat) : St → Tree (XE × St) := Bav (C6s f) (C6t f) (finP 49 .i64 [.exit 0] (Ckc f) (fu_b1 f))
def Lt_b1 (f : Nat) : Bi2 := fun k => bif Nat.beq k 4 then some (sm_b2 f) else none
theorem Ckd : Bak C2b = [Bx0] := by kernel_rfl
theorem Cyo : keyOf Bx0 = 4 := by kernel_rfl
theorem Cke {f : Nat} (h : Baz Tryz.prog 103 Bx0 (sm_b2 f)) : ∀ d ∈ Bak C2b, ∀ g, Lt_b1 f (keyOf d) = some g → Baz Tryz.prog 103 d g := fun d hd g hg => by
 rw [Ckd, List.mem_singleton] at hd
 subst hd
 rw [Cyo] at hg
 cases hg
 exact h
theorem Ckf : Baz Tryz.prog 103 Bx0 (sm_b2 53) := Bm6 (Bg3 is_Tick1 Bes Bet) 7 _ _ _ Cr9 _ _ _ _ (fu_b2 53) (fun g => by kernel_rfl)
theorem Cyp : Baz Tryz.prog 103 C2b (sm_b1 53) := C53 (Bg3 is_Tick1 Bes Bet) 7 _ (Lt_b1 53) (Cke Ckf) _ _ Cra _ _ _ _ (fu_b1 53) (fun g => by kernel_rfl)
def boE (bl : List (TCT No)) (c : TCT Bbw) (ps : Dss) (os : List Bool) (w fl t st : Int) (i : Nat) (s : MK) : MK ⊕ Int := Bz1 (Baw (bpE (Bd1 bl i) c ps os w fl t st i) 0 ps.length s)
def Bt8 (f : Nat) (x : GB) : MK ⊕ Int → Fp (C6t f)
 | .inl s => Cvq f x s
 | .inr e => Cvr f e
theorem Ckg {b : TCT No} {c : TCT Bbw} {ps : Dss} {os : List Bool} {w fl t st : Int} {i n k0 m : Nat} : ∀ (j k : Nat) (s s' : MK), k + j = m → InvK n k0 k s → Bz1 (Baw (bpE b c ps os w fl t st i) k j s) = .inl s' → InvK n k0 m s'
 | 0, k, s, s', hj, hi, h => by
  have e : k = m := by omega
  subst e
  cases h
  exact hi
 | j + 1, k, s, s', hj, hi, h => by
  unfold Baw at h
  cases hf : bpE b c ps os w fl t st i k s with
  | inl t1 => rw [hf] at h; exact Ckg j (k + 1) t1 s' (by omega) (Ck9 (m := m) k s t1 (by omega) hi hf) h
  | inr y =>
   rw [hf] at h
   unfold bpE at hf
   have hk := hi.k
   cases h1 : !Bbs s.1 os i || Bdp w fl i with
   | true =>
    rw [h1] at hf
    cases hf
    cases h
    exact ⟨hi.m, by omega⟩
   | false =>
    rw [h1] at hf
    cases h2 : (bmV b (Bah s.1 i) (Bdu ps k) c).2.1 == 0 with
    | true => rw [h2] at hf; cases hf
    | false =>
     rw [h2] at hf
     cases h3 : (bmV b (Bah s.1 i) (Bdu ps k) c).2.1 == 4 with
     | true => rw [h3] at hf; cases hf; cases h
     | false => rw [h3] at hf; cases hf
structure InvO (n k P : Nat) (i : Nat) (s : MK) : Prop where
 m : s.1.length = n
 k : s.2.length ≤ k + i * P
theorem Ckh {bl : List (TCT No)} {c : TCT Bbw} {ps : Dss} {os : List Bool} {w fl t st : Int} {n k0 m : Nat} (i : Nat) (s s' : MK) (_ : i < m) (hi : InvO n k0 ps.length i s) (h : boE bl c ps os w fl t st i s = .inl s') : InvO n k0 ps.length (i + 1) s' := by
 have a := Ckg (n := n) (k0 := k0 + i * ps.length) (m := ps.length) ps.length 0 s s' (by omega) ⟨hi.m, by have := hi.k; omega⟩ h
 have e : (i + 1) * ps.length = i * ps.length + ps.length := Nat.succ_mul i ps.length
 exact ⟨a.m, by have := a.k; omega⟩
theorem D3t {f : Nat} {x : GB} {s : MK} (hx : OkGM x.1) (hm : s.1.length = nBx x.1) (hk : s.2.length ≤ 900000) (hps : (gmP x.1).length ≤ 1000) :
  iter (Ckc f) (nBx x.1 + 1) (Cka f x (gmB x.1) (nBx x.1) 0 s) = some (Bt8 f x (Baw (boE (gmB x.1) (gmC x.1) (gmP x.1) (gmO x.1) (gmW x.1) (gmF x.1) (gmT x.1) (gmS x.1)) 0 (nBx x.1) s)) := by
 have hn8 := hx.n
 have hn : (nBx x.1 : Int) ≤ Bb2 .i64 := by show (nBx x.1 : Int) ≤ 9223372036854775807; omega
 refine Bf9 (nBx x.1) (fun i s => Cka f x (gmB x.1) (nBx x.1) i s) (boE (gmB x.1) (gmC x.1) (gmP x.1) (gmO x.1) (gmW x.1) (gmF x.1) (gmT x.1) (gmS x.1)) (Bt8 f x) (InvO (nBx x.1) s.2.length (gmP x.1).length) (fun i s1 hi hl => ?_) Ckh (fun s hl => ?_) (nBx x.1) 0 s (by omega) ⟨hm, by omega⟩
 ·show (Bt7 f (gb (gmU x.1 s1.1 (gmO x.1)) s1.2) (gmB x.1) (nBx x.1) i).run = _
  have h2 := hl.k
  have h3 : i * (gmP x.1).length ≤ 8 * 1000 := Nat.mul_le_mul (by omega) hps
  have hy : D3s f (gb (gmU x.1 s1.1 (gmO x.1)) s1.2) (cb1 (gb (gmU x.1 s1.1 (gmO x.1)) s1.2) (gmB x.1) (nBx x.1) i) = some (Bz2 f (gb (gmU x.1 s1.1 (gmO x.1)) s1.2) (cb1 (gb (gmU x.1 s1.1 (gmO x.1)) s1.2) (gmB x.1) (nBx x.1) i) (Baw (bpE (Bd1 (gmB x.1) i) (gmC x.1) (gmP x.1) (gmO x.1) (gmW x.1) (gmF x.1) (gmT x.1) (gmS x.1) i) 0 (gmP x.1).length s1)) :=
   D3q (f := f) (x := gb (gmU x.1 s1.1 (gmO x.1)) s1.2) (c := cb1 (gb (gmU x.1 s1.1 (gmO x.1)) s1.2) (gmB x.1) (nBx x.1) i) (i := i) (n := nBx x.1) (k0 := s.2.length + i * (gmP x.1).length) (s := s1) rfl hi hx.os ⟨hl.m, by omega⟩ (by omega) hps
  unfold Bt7
  rw [decide_eq_true (show (i : Int) < (nBx x.1 : Int) by omega), Bdb (n := (gmB x.1).length) (by show 0 ≤ (i : Int) ∧ (i : Int) < (nBx x.1 : Int); omega), hy]
  unfold boE Bz2
  cases Bz1 (Baw (bpE (Bd1 (gmB x.1) i) (gmC x.1) (gmP x.1) (gmO x.1) (gmW x.1) (gmF x.1) (gmT x.1) (gmS x.1) i) 0 (gmP x.1).length s1) with
  | inl s2 =>
   show (Tree.leaf (.inl (((), gmB x.1, (nBx x.1 : Int), W64 ((i : Int) + 1), ()), gb (gmU x.1 s2.1 (gmO x.1)) s2.2)) : TB1 f).run = _
   rw [Bct hi hn]
   rfl
  | inr e =>
   have h1 : isP 49 .i64 (some (C2e f e)) = true := Blg
   have h2 : panO 49 .i64 (some (C2e f e)) = ⟨e, ((), ())⟩ := Bh9
   show (Ckb f (some (C2e f e))).run = _
   unfold Ckb
   rw [h1, h2]
   rfl
 ·show (Bt7 f (gb (gmU x.1 s.1 (gmO x.1)) s.2) (gmB x.1) (nBx x.1) (nBx x.1)).run = _
  unfold Bt7
  rw [decide_eq_false (show ¬ (nBx x.1 : Int) < (nBx x.1 : Int) by omega)]
  rfl
end St
end V
end Go.Proofs.YtcfanlgpkefogaaGreat
namespace Go.Proofs.YtcfanlgpkefogaaGreat
open Go.RowKit
namespace V
namespace St
noncomputable def D79 (f : Nat) : Ctx := Bv8 Tryz.prog plGm [(103, Tryz.f103)] [((103, 1), sm_b1 f), ((103, 4), sm_b2 f)] (spG f)
theorem Crb {f : Nat} (h1 : Bbn Tryz.prog 137 (sp_ro f)) (h2 : Bbn Tryz.prog 98 (sp_fl f)) (l1 : Baz Tryz.prog 103 C2b (sm_b1 f)) (l2 : Baz Tryz.prog 103 Bx0 (sm_b2 f)) : CtxOk (D79 f) :=
 Bg9 Ban puGm (fns_cons is_gbump Fq) (Bdz (Bo0 (ds := [C2b, Bx0]) (by kernel_rfl) ⟨Bhy (k := 1) (by kernel_rfl) rfl l1, Bhy (k := 4) (by kernel_rfl) rfl l2, trivial⟩) Bis) (Biq is_rolls.plain h1 is_flies.plain h2)
def Cki (f : Nat) (x : GB) : Option (Fp (C6t f)) := iter (Ckc f) (nBx x.1 + 1) (Cka f x (gmB x.1) (nBx x.1) 0 (gmM x.1, gk x))
def T_bp (f : Nat) (x : GB) : TU f := bif isP 49 .i64 (Cki f x) then .leaf ⟨false, pnU f (panO 49 .i64 (Cki f x)).1⟩ else bif isE (.exit 0) (Cki f x) then .leaf ⟨true, ((), (Bc4 (.exit 0) (Cki f x)).2)⟩ else .fail
def buF (bl : List (TCT No)) (c : TCT Bbw) (ps : Dss) (t st w fl : Int) (n : Nat) (s : S2) : MK ⊕ Int := Baw (boE bl c ps s.2.1 w fl t st) 0 n (s.1, s.2.2)
def C2f (x : GB) : Bool := Bmu x && decide ((gmP x.1).length ≤ 1000)
theorem C2g {x : GB} (h : C2f x = true) : OkGM x.1 ∧ (gk x).length ≤ 900000 ∧ (gmP x.1).length ≤ 1000 := by
 unfold C2f at h
 simp only [Bool.and_eq_true, decide_eq_true_eq] at h
 have a := Bt2 h.1
 exact ⟨a.1, a.2, h.2⟩
def C2h (x : GB) : Option (MK ⊕ Int) := bif C2f x then some (buF (gmB x.1) (gmC x.1) (gmP x.1) (gmT x.1) (gmS x.1) (gmW x.1) (gmF x.1) (nBx x.1) (gs x)) else none
abbrev sp_bp (f : Nat) : Baj → Nat → List AV → Tree (Out × Baj × Nat) := Bi9 Bif (FL_g f) (FE_u f) (Bsw (fun g : (FL_g f).T => C2h g.2) (fun g => C2a f g.2) (pnU f) ([], []))
theorem Cyq {f : Nat} {g : (FL_g f).T} {z : MK ⊕ Int} (h : C2h g.2 = some z) : (T_bp f g.2).run = some (Bw1 (L := FL_g f) (E := FE_u f) (fun g => C2a f g.2) (pnU f) g z) := by
 unfold C2h at h
 cases ho : C2f g.2 with
 | false => rw [ho] at h; cases h
 | true =>
  rw [ho] at h
  cases h
  obtain ⟨hg, hk, hp⟩ := C2g ho
  have hy : Cki f g.2 = some (Bt8 f g.2 (buF (gmB g.2.1) (gmC g.2.1) (gmP g.2.1) (gmT g.2.1) (gmS g.2.1) (gmW g.2.1) (gmF g.2.1) (nBx g.2.1) (gs g.2))) := D3t hg hg.ms hk hp
  unfold T_bp
  rw [hy]
  cases buF (gmB g.2.1) (gmC g.2.1) (gmP g.2.1) (gmT g.2.1) (gmS g.2.1) (gmW g.2.1) (gmF g.2.1) (nBx g.2.1) (gs g.2) with
  | inl s => rfl
  | inr e =>
   have h1 : isP 49 .i64 (some (Bt8 f g.2 (.inr e))) = true := Blg
   have h2 : panO 49 .i64 (some (Bt8 f g.2 (.inr e))) = ⟨e, ((), ())⟩ := Bh9
   rw [h1, h2]
   rfl
theorem Crc : Bbn Tryz.prog 103 (sp_bp 53) := Bpm (Crb Bes Bet Cyp Ckf) 6 Blj _ _ _ _ (fun g => T_bp 53 g.2) (fun g => by kernel_rfl) fun _ _ _ h => Cyq h
end St
end V
end Go.Proofs.YtcfanlgpkefogaaGreat
namespace Go.Proofs.YtcfanlgpkefogaaGreat
open Go.RowKit
namespace V
def thY {A β : Type} (y : Option (A ⊕ Int)) (d : A) (pn : Int → Tree β) (k : A → Tree β) : Tree β := bif isL y then k (gL d y) else bif isR y then pn (gR 0 y) else .fail
theorem Bx1 {A β : Type} {y : Option (A ⊕ Int)} {d a : A} {pn : Int → Tree β} {k : A → Tree β} (h : y = some (.inl a)) : thY y d pn k = k a := by rw [h]; rfl
theorem Bx2 {A β : Type} {y : Option (A ⊕ Int)} {d : A} {e : Int} {pn : Int → Tree β} {k : A → Tree β} (h : y = some (.inr e)) : thY y d pn k = pn e := by rw [h]; rfl
namespace St
noncomputable def Ckj : Code := (Bak (bodyOf Tryz.f54)).getD 0 .skip
def C6v (f : Nat) : Lay := { keys := [0], ks := [.p 0 0 0 0], bs := bsG f, n := 52, nx := 4000, marks := [] }
def D7a : Lay := { keys := [], ks := [], bs := [], n := 52, nx := 9000, marks := [] }
def C2i (f : Nat) : XE → Lay := fun e => match e with | .panic _ => D7a | _ => C6v f
theorem Crd {f : Nat} (e : XE) : (C6v f).nx ≤ (C2i f e).nx := by cases e <;> first | exact Nat.le_refl _ | exact (by decide : (4000 : Nat) ≤ 9000)
abbrev YS : Type := GB → Option (Bam ⊕ Int)
abbrev Y2 : Type := GB → Option (S2 ⊕ Int)
abbrev YK : Type := GB → Option (MK ⊕ Int)
abbrev SPf : Type := Baj → Nat → List AV → Tree (Out × Baj × Nat)
def D7b {β : Type} (m : GM) (ms : Bam) (os : List Bool) (k : GM → β) : β := match m with
 | (a0, a1, a2, a3, a4, a5, a6, a7, a8, a9, a10, a11, a12, a13, a14, _, _, a17, a18, a19, a20, a21, _) => k (a0, a1, a2, a3, a4, a5, a6, a7, a8, a9, a10, a11, a12, a13, a14, ms, os, a17, a18, a19, a20, a21, ())
def D3u {β : Type} (m : GM) (ms : Bam) (k : GM → β) : β := match m with
 | (a0, a1, a2, a3, a4, a5, a6, a7, a8, a9, a10, a11, a12, a13, a14, _, a16, a17, a18, a19, a20, a21, _) => k (a0, a1, a2, a3, a4, a5, a6, a7, a8, a9, a10, a11, a12, a13, a14, ms, a16, a17, a18, a19, a20, a21, ())
def gmA (m : GM) (ms : Bam) (os : List Bool) (fl tk st : Int) : GM := (m.1, m.2.1, m.2.2.1, m.2.2.2.1, m.2.2.2.2.1, m.2.2.2.2.2.1, m.2.2.2.2.2.2.1, m.2.2.2.2.2.2.2.1, m.2.2.2.2.2.2.2.2.1, m.2.2.2.2.2.2.2.2.2.1, m.2.2.2.2.2.2.2.2.2.2.1, m.2.2.2.2.2.2.2.2.2.2.2.1, m.2.2.2.2.2.2.2.2.2.2.2.2.1, m.2.2.2.2.2.2.2.2.2.2.2.2.2.1, m.2.2.2.2.2.2.2.2.2.2.2.2.2.2.1, ms, os, m.2.2.2.2.2.2.2.2.2.2.2.2.2.2.2.2.2.1, fl, tk, st, m.2.2.2.2.2.2.2.2.2.2.2.2.2.2.2.2.2.2.2.2.2.1, ())
def Bqo {L : FLay} {E : Bool → FLay} {A : Type} (Y : L.T → Option (A ⊕ Int)) (mk : L.T → A → ((E true).T → Tree (Bcw E)) → Tree (Bcw E)) (pn : Int → (E false).T) (d : A) (g : L.T) : Tree (Bcw E) :=
 .br (isL (Y g)) (mk g (gL d (Y g)) fun y => .leaf ⟨true, y⟩) (.br (isR (Y g)) (.leaf ⟨false, pn (gR 0 (Y g))⟩) .fail)
def D3v (f : Nat) (x : GB) (s : S2) (k : (FE_u f true).T → Tree (Bcw (FE_u f))) : Tree (Bcw (FE_u f)) := D7b x.1 s.1 s.2.1 fun m => k ((), (m, (s.2.2, ()), ()))
def D3w (f : Nat) (x : GB) (s : MK) (k : (FE_u f true).T → Tree (Bcw (FE_u f))) : Tree (Bcw (FE_u f)) := D3u x.1 s.1 fun m => k ((), (m, (s.2, ()), ()))
def D3x (f : Nat) (x : GB) (s : Bam) (k : (FE_u f true).T → Tree (Bcw (FE_u f))) : Tree (Bcw (FE_u f)) := D3u x.1 s fun m => k ((), (m, (x.2.1.1, ()), ()))
theorem Cre {f : Nat} (Y : Y2) : (Bqo (L := FL_g f) (E := FE_u f) (fun g => Y g.2) (fun g => D3v f g.2) (pnU f) ([], [], [])) = (Bsw (L := FL_g f) (E := FE_u f) (fun g => Y g.2) (fun g => Cjx f g.2) (pnU f) ([], [], [])) := rfl
theorem Bz3 {f : Nat} (Y : YK) : (Bqo (L := FL_g f) (E := FE_u f) (fun g => Y g.2) (fun g => D3w f g.2) (pnU f) ([], [])) = (Bsw (L := FL_g f) (E := FE_u f) (fun g => Y g.2) (fun g => C2a f g.2) (pnU f) ([], [])) := rfl
theorem Crf {f : Nat} (Y : YS) : (Bqo (L := FL_g f) (E := FE_u f) (fun g => Y g.2) (fun g => D3x f g.2) (pnU f) []) = (Bsw (L := FL_g f) (E := FE_u f) (fun g => Y g.2) (fun g => C6g f g.2) (pnU f) []) := rfl
abbrev D3y (f : Nat) (Y : YS) : SPf := Bi9 Bif (FL_g f) (FE_u f) (Bqo (fun g : (FL_g f).T => Y g.2) (fun g => D3x f g.2) (pnU f) [])
abbrev D3z (f : Nat) (Y : Y2) : SPf := Bi9 Bif (FL_g f) (FE_u f) (Bqo (fun g : (FL_g f).T => Y g.2) (fun g => D3v f g.2) (pnU f) ([], [], []))
abbrev Cd9 (f : Nat) (Y : YK) : SPf := Bi9 Bif (FL_g f) (FE_u f) (Bqo (fun g : (FL_g f).T => Y g.2) (fun g => D3w f g.2) (pnU f) ([], []))
structure TY where
 s : YS
 m : Y2
 e : YK
 b : YK
def spT (f : Nat) (Y : TY) : List (Nat × SPf) := [(101, D3y f Y.s), (102, D3z f Y.m), (50, Cd9 f Y.e), (103, Cd9 f Y.b)]
def tyG : TY := ⟨Bsz, C28, Bmv, C2h⟩
theorem Cyr {f : Nat} (h1 : Bbn Tryz.prog 101 (sp_slw f)) (h2 : Bbn Tryz.prog 102 (sp_mv f)) (h3 : Bbn Tryz.prog 50 (sp_se f)) (h4 : Bbn Tryz.prog 103 (sp_bp f)) : ∀ p ∈ spT f tyG, Plain Tryz.prog p.1 ∧ Bbn Tryz.prog p.1 p.2 := fun p hp => by
 unfold spT at hp
 simp only [List.mem_cons, List.not_mem_nil, or_false] at hp
 rcases hp with rfl | rfl | rfl | rfl
 ·exact ⟨is_gslow.plain, by rw [tyG, D3y, Crf]; exact h1⟩
 ·exact ⟨is_gmove.plain, by rw [tyG, D3z, Cre]; exact h2⟩
 ·exact ⟨is_gsettle.plain, by rw [tyG, Cd9, Bz3]; exact h3⟩
 ·exact ⟨is_gbump.plain, by rw [tyG, Cd9, Bz3]; exact h4⟩
theorem Cvs : ∀ p ∈ spT 53 tyG, Plain Tryz.prog p.1 ∧ Bbn Tryz.prog p.1 p.2 := Cyr Cjn Cr2 Cr7 Crc
noncomputable def D7c (f : Nat) (Y : TY) : Ctx := Bv8 Tryz.prog plGm [(49, Tryz.f49)] [] (spT f Y)
theorem Crg {f : Nat} {Y : TY} (h : ∀ p ∈ spT f Y, Plain Tryz.prog p.1 ∧ Bbn Tryz.prog p.1 p.2) : CtxOk (D7c f Y) := Bg9 Ban puGm (fns_cons is_must Fq) Bir h
def x2 (x : GB) (s : S2) : GB := gb (gmU x.1 s.1 s.2.1) s.2.2
abbrev TTk (f : Nat) := Tree ((C6v f).T ⊕ Fp (C2i f))
def Cvt (f : Nat) (e : Int) : Fp (C2i f) := ⟨.panic (.ifc 49 (.int .i64 e)), ((), ())⟩
def Bx3 (f : Nat) (e : Int) : TTk f := .leaf (.inr (Cvt f e))
def z2 : S2 := ([], [], [])
def zM : MK := ([], [])
def xS (x : GB) (i : Int) (s : S2) : GB := (gmA x.1 s.1 s.2.1 (gmF x.1) (gmT x.1) i, (s.2.2, ()), ())
def Bt9 (f : Nat) (Y : TY) (x : GB) (i : Int) (s : S2) : TTk f := bif decide (i ≤ 16) then thY (Y.m (xS x i s)) z2 (Bx3 f) fun s1 => thY (Y.e (xS x i s1)) zM (Bx3 f) fun s2 => thY (Y.b (xS x i (s2.1, s1.2.1, s2.2))) zM (Bx3 f) fun s3 => .leaf (.inl (((), ()), xS x (W64 (i + 1)) (s3.1, s1.2.1, s3.2)))
 else .leaf (.inr ⟨.exit 0, (((), ()), xS x i s)⟩)
def Caa (f : Nat) (Y : TY) (g : (C6v f).T) : TTk f := Bt9 f Y g.2 (gmS g.2.1) (gs g.2)
def fu_tk (f : Nat) (_ : (C6v f).T) : Nat := 17
def sm_tk (f : Nat) (Y : TY) : St → Tree (XE × St) := Bav (C6v f) (C2i f) (finP 49 .i64 [.exit 0] (Caa f Y) (fu_tk f))
theorem Cys {Y : TY} (h : ∀ p ∈ spT 53 Y, Plain Tryz.prog p.1 ∧ Bbn Tryz.prog p.1 p.2) : Baz Tryz.prog 54 Ckj (sm_tk 53 Y) := Bm6 (Crg h) 7 _ _ _ Crd _ _ _ _ (fu_tk 53) (fun g => by kernel_rfl)
structure CT where
 bl : List (TCT No)
 l : TCT Bao
 c : TCT Bbw
 ps : Dss
 w : Int
 fl : Int
 t : Int
def tkE (k : CT) (i : Nat) (s : S2) : S2 ⊕ Int := match mvF k.bl k.l k.t ((i + 1 : Nat) : Int) k.bl.length s with
 | .inr e => .inr e
 | .inl s1 => match seF k.bl k.c k.t ((i + 1 : Nat) : Int) k.w k.fl k.bl.length s1 with
  | .inr e => .inr e
  | .inl s2 => match buF k.bl k.c k.ps k.t ((i + 1 : Nat) : Int) k.w k.fl k.bl.length (s2.1, s1.2.1, s2.2) with
   | .inr e => .inr e
   | .inl s3 => .inl (s3.1, s1.2.1, s3.2)
theorem Bz4 {bl : List (TCT No)} {l : TCT Bao} {t st : Int} {n k : Nat} {s s' : S2} (hs : Inv2 n k 0 s) (h : mvF bl l t st n s = .inl s') : Inv2 n (k + n) 0 s' := by
 unfold mvF at h
 cases h1 : Baw (stE bl s.2.1) 0 n s.1 with
 | inr e => rw [h1] at h; cases h
 | inl ms =>
  rw [h1] at h
  change Baw (lvE l t st) 0 n (ms, s.2.1, s.2.2) = .inl s' at h
  have hm : ms.length = n := Bb1 (n := n) (Inv := fun _ (s : Bam) => s.length = n) C6i n 0 _ _ (by omega) hs.m h1
  have a := Bb1 (n := n) (Inv := Inv2 n k) Cjv n 0 (ms, s.2.1, s.2.2) s' (by omega) ⟨hm, hs.o, hs.k⟩ h
  exact ⟨a.m, a.o, by have := a.k; omega⟩
theorem Cab {bl : List (TCT No)} {c : TCT Bbw} {t st w fl : Int} {n k : Nat} {s : S2} {s' : MK} (hn : n ≤ 8) (hs : Inv2 n k 0 s) (h : seF bl c t st w fl n s = .inl s') : Inv2 n (k + 64) 0 (s'.1, s.2.1, s'.2) := by
 unfold seF at h
 cases he : (seS bl c w fl n s).2.2.1 != 0 with
 | true => rw [he] at h; cases h
 | false =>
  rw [he] at h
  cases h
  have a := Bpq (bl := bl) (bc := c) (w := w) (fl := fl) (s := s) hn (bne_eq_false_iff_eq.1 he)
  have hk := hs.k
  refine ⟨?_, hs.o, ?_⟩
  ·show (scV _ _ _).length = n
   rw [Ca5]; exact hs.m
  ·show (kpV _ _ _ _ _).length ≤ _
   rw [Ca8]; have := a.2.1; omega
theorem Crh {bl : List (TCT No)} {c : TCT Bbw} {ps : Dss} {t st w fl : Int} {n k : Nat} {s : S2} {s' : MK} (hs : Inv2 n k 0 s) (h : buF bl c ps t st w fl n s = .inl s') : Inv2 n (k + n * ps.length) 0 (s'.1, s.2.1, s'.2) := by
 unfold buF at h
 have hk := hs.k
 have a := Bb1 (n := n) (Inv := InvO n s.2.2.length ps.length) Ckh n 0 _ _ (by omega) ⟨hs.m, by show s.2.2.length ≤ s.2.2.length + 0 * ps.length; omega⟩ h
 exact ⟨a.m, hs.o, by have := a.k; show s'.2.length ≤ _; omega⟩
theorem Cac {k : CT} {k0 m : Nat} (hn : k.bl.length ≤ 8) (hp : k.ps.length ≤ 1000) (i : Nat) (s s' : S2) (_ : i < m) (hs : Inv2 k.bl.length (k0 + i * 8072) 0 s) (h : tkE k i s = .inl s') : Inv2 k.bl.length (k0 + (i + 1) * 8072) 0 s' := by
 unfold tkE at h
 cases h1 : mvF k.bl k.l k.t ((i + 1 : Nat) : Int) k.bl.length s with
 | inr e => rw [h1] at h; cases h
 | inl s1 =>
  rw [h1] at h
  have a := Bz4 hs h1
  simp only at h
  cases h2 : seF k.bl k.c k.t ((i + 1 : Nat) : Int) k.w k.fl k.bl.length s1 with
  | inr e => rw [h2] at h; cases h
  | inl s2 =>
   rw [h2] at h
   have b := Cab hn a h2
   simp only at h
   cases h3 : buF k.bl k.c k.ps k.t ((i + 1 : Nat) : Int) k.w k.fl k.bl.length (s2.1, s1.2.1, s2.2) with
   | inr e => rw [h3] at h; cases h
   | inl s3 =>
    rw [h3] at h
    cases h
    have c := Crh b h3
    have d : k.bl.length * k.ps.length ≤ 8 * 1000 := Nat.mul_le_mul hn hp
    exact ⟨c.m, c.o, by have := c.k; simp only at this ⊢; omega⟩
def ctG (m : GM) : CT := ⟨gmB m, gmL m, gmC m, gmP m, gmW m, gmF m, gmT m⟩
theorem Cri {x : GB} {i : Int} {s : S2} {k : Nat} (hsz : (x.1.1.size : Int) ≤ Bb2 .i64) (hn : nBx x.1 ≤ 8) (hs : Inv2 (nBx x.1) k 0 s) (hk : k ≤ 900000) : C28 (xS x i s) = some (mvF (gmB x.1) (gmL x.1) (gmT x.1) i (nBx x.1) s) := by
 have h : Bmu (xS x i s) = true := by
  have := hs.k
  unfold Bmu
  rw [Bool.and_eq_true, decide_eq_true_eq]
  exact ⟨Bfa.2 ⟨hsz, hs.m, hs.o, hn⟩, by show s.2.2.length ≤ 900000; omega⟩
 unfold C28; rw [h]; rfl
theorem Crj {x : GB} {i : Int} {s : S2} {k : Nat} (hsz : (x.1.1.size : Int) ≤ Bb2 .i64) (hn : nBx x.1 ≤ 8) (hs : Inv2 (nBx x.1) k 0 s) (hk : k ≤ 900000) : Bmv (xS x i s) = some (seF (gmB x.1) (gmC x.1) (gmT x.1) i (gmW x.1) (gmF x.1) (nBx x.1) s) := by
 have h : Bmu (xS x i s) = true := by
  have := hs.k
  unfold Bmu
  rw [Bool.and_eq_true, decide_eq_true_eq]
  exact ⟨Bfa.2 ⟨hsz, hs.m, hs.o, hn⟩, by show s.2.2.length ≤ 900000; omega⟩
 unfold Bmv; rw [h]; rfl
theorem Crk {x : GB} {i : Int} {s : S2} {k : Nat} (hsz : (x.1.1.size : Int) ≤ Bb2 .i64) (hn : nBx x.1 ≤ 8) (hp : (gmP x.1).length ≤ 1000) (hs : Inv2 (nBx x.1) k 0 s) (hk : k ≤ 900000) : C2h (xS x i s) = some (buF (gmB x.1) (gmC x.1) (gmP x.1) (gmT x.1) i (gmW x.1) (gmF x.1) (nBx x.1) s) := by
 have h : C2f (xS x i s) = true := by
  have := hs.k
  unfold C2f Bmu
  rw [Bool.and_eq_true, Bool.and_eq_true, decide_eq_true_eq, decide_eq_true_eq]
  exact ⟨⟨Bfa.2 ⟨hsz, hs.m, hs.o, hn⟩, by show s.2.2.length ≤ 900000; omega⟩, hp⟩
 unfold C2h; rw [h]; rfl
def Ckk (f : Nat) (x : GB) (i : Nat) (s : S2) : (C6v f).T := (((), ()), xS x ((i + 1 : Nat) : Int) s)
def D40 (f : Nat) (x : GB) (s : S2) : Fp (C2i f) := ⟨.exit 0, (((), ()), xS x 17 s)⟩
def Bta (f : Nat) (x : GB) : S2 ⊕ Int → Fp (C2i f)
 | .inl s => D40 f x s
 | .inr e => Cvt f e
theorem D41 (x : GB) (i j : Int) (s t : S2) : xS (xS x i s) j t = xS x j t := by
 unfold xS gmA
 rfl
theorem C2j {f : Nat} {x : GB} {i : Nat} {s : S2} : Caa f tyG (Ckk f x i s) = Bt9 f tyG x ((i + 1 : Nat) : Int) s := by
 show Bt9 f tyG (xS x ((i + 1 : Nat) : Int) s) ((i + 1 : Nat) : Int) s = _
 unfold Bt9
 simp only [D41]
theorem D42 {f : Nat} {x : GB} {s : S2} {k0 : Nat} (hsz : (x.1.1.size : Int) ≤ Bb2 .i64) (hn : nBx x.1 ≤ 8) (hp : (gmP x.1).length ≤ 1000) (hs : Inv2 (nBx x.1) k0 0 s) (hk0 : k0 ≤ 700000) :
  iter (Caa f tyG) 17 (Ckk f x 0 s) = some (Bta f x (Baw (tkE (ctG x.1)) 0 16 s)) := by
 refine Bf9 16 (fun i s => Ckk f x i s) (tkE (ctG x.1)) (Bta f x) (fun i s => Inv2 (nBx x.1) (k0 + i * 8072) 0 s) (fun i s hi hl => ?_) (fun i s s' hi hl h => Cac (k := ctG x.1) (k0 := k0) (m := 16) hn hp i s s' hi hl h) (fun s hl => ?_) 16 0 s (by omega) ⟨hs.m, hs.o, by have := hs.k; omega⟩
 ·rw [C2j]
  have e1 := Cri (i := ((i + 1 : Nat) : Int)) hsz hn (s := s) hl (by omega)
  unfold Bt9
  rw [decide_eq_true (show ((i + 1 : Nat) : Int) ≤ 16 by omega), cond_true]
  show (thY (C28 (xS x ((i + 1 : Nat) : Int) s)) z2 (Bx3 f) fun s1 => thY (Bmv (xS x ((i + 1 : Nat) : Int) s1)) zM (Bx3 f) fun s2 => thY (C2h (xS x ((i + 1 : Nat) : Int) (s2.1, s1.2.1, s2.2))) zM (Bx3 f) fun s3 =>
   .leaf (.inl (((), ()), xS x (W64 (((i + 1 : Nat) : Int) + 1)) (s3.1, s1.2.1, s3.2)))).run = _
  unfold tkE
  change C28 (xS x ((i + 1 : Nat) : Int) s) = some (mvF (ctG x.1).bl (ctG x.1).l (ctG x.1).t ((i + 1 : Nat) : Int) (ctG x.1).bl.length s) at e1
  cases h1 : mvF (ctG x.1).bl (ctG x.1).l (ctG x.1).t ((i + 1 : Nat) : Int) (ctG x.1).bl.length s with
  | inr e => rw [h1] at e1; rw [Bx2 e1]; rfl
  | inl s1 =>
   rw [h1] at e1
   rw [Bx1 e1]
   have a : Inv2 (nBx x.1) (k0 + i * 8072 + nBx x.1) 0 s1 := Bz4 hl h1
   have e2 := Crj (i := ((i + 1 : Nat) : Int)) hsz hn (s := s1) a (by omega)
   change Bmv (xS x ((i + 1 : Nat) : Int) s1) = some (seF (ctG x.1).bl (ctG x.1).c (ctG x.1).t ((i + 1 : Nat) : Int) (ctG x.1).w (ctG x.1).fl (ctG x.1).bl.length s1) at e2
   simp only
   cases h2 : seF (ctG x.1).bl (ctG x.1).c (ctG x.1).t ((i + 1 : Nat) : Int) (ctG x.1).w (ctG x.1).fl (ctG x.1).bl.length s1 with
   | inr e => rw [h2] at e2; rw [Bx2 e2]; rfl
   | inl s2 =>
    rw [h2] at e2
    rw [Bx1 e2]
    have b : Inv2 (nBx x.1) (k0 + i * 8072 + nBx x.1 + 64) 0 (s2.1, s1.2.1, s2.2) := Cab hn a h2
    have e3 := Crk (i := ((i + 1 : Nat) : Int)) hsz hn hp (s := (s2.1, s1.2.1, s2.2)) b (by omega)
    change C2h (xS x ((i + 1 : Nat) : Int) (s2.1, s1.2.1, s2.2)) = some (buF (ctG x.1).bl (ctG x.1).c (ctG x.1).ps (ctG x.1).t ((i + 1 : Nat) : Int) (ctG x.1).w (ctG x.1).fl (ctG x.1).bl.length (s2.1, s1.2.1, s2.2)) at e3
    simp only
    cases h3 : buF (ctG x.1).bl (ctG x.1).c (ctG x.1).ps (ctG x.1).t ((i + 1 : Nat) : Int) (ctG x.1).w (ctG x.1).fl (ctG x.1).bl.length (s2.1, s1.2.1, s2.2) with
    | inr e => rw [h3] at e3; rw [Bx2 e3]; rfl
    | inl s3 =>
     rw [h3] at e3
     rw [Bx1 e3, Bba (by omega) (by omega)]
     rfl
 ·rw [C2j]
  rfl
end St
end V
end Go.Proofs.YtcfanlgpkefogaaGreat
namespace Go.Proofs.YtcfanlgpkefogaaGreat
open Go.RowKit
namespace V
namespace St
noncomputable def X_ti (f : Nat) (Y : TY) : Ctx := Bv8 Tryz.prog plGm [(54, Tryz.f54), (49, Tryz.f49)] [((54, 4), sm_tk f Y)] (spT f Y)
theorem Crl {f : Nat} {Y : TY} (h : ∀ p ∈ spT f Y, Plain Tryz.prog p.1 ∧ Bbn Tryz.prog p.1 p.2) (hl : Baz Tryz.prog 54 Ckj (sm_tk f Y)) : CtxOk (X_ti f Y) :=
 Bg9 Ban puGm (fns_cons is_gtick (fns_cons is_must Fq)) (Bdz (Bo0 (ds := [Ckj]) (by kernel_rfl) ⟨Bhy (k := 4) (by kernel_rfl) rfl hl, trivial⟩) (Bdz (Bt0 (by kernel_rfl)) Bis)) h
def C2k (f : Nat) (e : Int) : TU f := .leaf ⟨false, pnU f e⟩
def D43 (v : GB) : GB := (gmA v.1 (gmM v.1) (gmO v.1) (max 0 (W64 (gmF v.1 - 1))) (W64 (gmT v.1 + 1)) (gmS v.1), (gk v, ()), ())
def Cyt (f : Nat) (y : Option (Fp (C2i f))) : TU f := bif isP 49 .i64 y then C2k f (panO 49 .i64 y).1 else bif isE (.exit 0) y then .leaf ⟨true, ((), D43 (Bc4 (.exit 0) y).2)⟩ else .fail
def Cyu (f : Nat) (Y : TY) (x : GB) (ms : Bam) : Option (Fp (C2i f)) := iter (Caa f Y) 17 (((), ()), xS x 1 (ms, gmO x.1, gk x))
def T_ti (f : Nat) (Y : TY) (x : GB) : TU f := bif gmT x.1 == 4000 then C2k f 3 else thY (Y.s x) [] (C2k f) fun ms => Cyt f (Cyu f Y x ms)
def slE (l : TCT Bao) (os : List Bool) (w fl : Int) (i : Nat) (ms : Bam) : Bam ⊕ Int :=
 bif !Bbs ms os i || Bdp w fl i then .inl ms else bif Bed l (Bah ms i).1 != 0 then .inr (Bed l (Bah ms i).1) else
 bif (Bkb l (Bah ms i)).2.1 != 0 then .inr 4 else .inl (Bb7 ms i (C6e l (Bah ms i)))
def tkF (k : CT) (s : S2) : S2 ⊕ Int := bif k.t == 4000 then .inr 3 else match Baw (slE k.l s.2.1 k.w k.fl) 0 k.bl.length s.1 with
 | .inr e => .inr e
 | .inl ms => Baw (tkE k) 0 16 (ms, s.2.1, s.2.2)
def Cda (x : GB) : Bool := C2f x && decide ((gk x).length ≤ 700000)
theorem Ckl {x : GB} (h : Cda x = true) : OkGM x.1 ∧ (gk x).length ≤ 700000 ∧ (gmP x.1).length ≤ 1000 := by
 unfold Cda at h
 simp only [Bool.and_eq_true, decide_eq_true_eq] at h
 have a := C2g h.1
 exact ⟨a.1, h.2, a.2.2⟩
def Bz5 (x : GB) : Option (S2 ⊕ Int) := bif Cda x then some (tkF (ctG x.1) (gs x)) else none
def xT (x : GB) (s : S2) : GB := (gmA x.1 s.1 s.2.1 (max 0 (W64 (gmF x.1 - 1))) (W64 (gmT x.1 + 1)) 17, (s.2.2, ()), ())
def D7d {β : Type} (m : GM) (ms : Bam) (os : List Bool) (k : GM → β) : β := match m with
 | (a0, a1, a2, a3, a4, a5, a6, a7, a8, a9, a10, a11, a12, a13, a14, _, _, a17, a18, a19, _, a21, _) => k (a0, a1, a2, a3, a4, a5, a6, a7, a8, a9, a10, a11, a12, a13, a14, ms, os, a17, max 0 (W64 (a18 - 1)), W64 (a19 + 1), 17, a21, ())
def D44 (f : Nat) (x : GB) (s : S2) (k : (FE_u f true).T → Tree (Bcw (FE_u f))) : Tree (Bcw (FE_u f)) := D7d x.1 s.1 s.2.1 fun m => k ((), (m, (s.2.2, ()), ()))
def Cyv (f : Nat) (x : GB) (s : S2) : (FE_u f true).T := ((), xT x s)
theorem Crm {f : Nat} (Y : Y2) : (Bqo (L := FL_g f) (E := FE_u f) (fun g => Y g.2) (fun g => D44 f g.2) (pnU f) ([], [], [])) = (Bsw (L := FL_g f) (E := FE_u f) (fun g => Y g.2) (fun g => Cyv f g.2) (pnU f) ([], [], [])) := rfl
abbrev spYT (f : Nat) (Y : Y2) : SPf := Bi9 Bif (FL_g f) (FE_u f) (Bqo (fun g : (FL_g f).T => Y g.2) (fun g => D44 f g.2) (pnU f) ([], [], []))
theorem Cyw {f : Nat} {g : (FL_g f).T} {z : S2 ⊕ Int} (h : Bz5 g.2 = some z) : (T_ti f tyG g.2).run = some (Bw1 (L := FL_g f) (E := FE_u f) (fun g => Cyv f g.2) (pnU f) g z) := by
 unfold Bz5 at h
 cases ho : Cda g.2 with
 | false => rw [ho] at h; cases h
 | true =>
  rw [ho] at h
  cases h
  obtain ⟨hg, hk, hp⟩ := Ckl ho
  unfold T_ti tkF
  show Tree.run (bif gmT g.2.1 == 4000 then C2k f 3 else thY (Bsz g.2) [] (C2k f) fun ms => Cyt f (Cyu f tyG g.2 ms)) = some (Bw1 (L := FL_g f) (E := FE_u f) (fun g => Cyv f g.2) (pnU f) g (bif gmT g.2.1 == 4000 then .inr 3 else match Baw (slE (gmL g.2.1) (gmO g.2.1) (gmW g.2.1) (gmF g.2.1)) 0 (nBx g.2.1) (gmM g.2.1) with
   | .inr e => .inr e
   | .inl ms => Baw (tkE (ctG g.2.1)) 0 16 (ms, gmO g.2.1, gk g.2)))
  cases gmT g.2.1 == 4000 with
  | true => rfl
  | false =>
   simp only [cond_false]
   have e1 : Bsz g.2 = some (Baw (slE (gmL g.2.1) (gmO g.2.1) (gmW g.2.1) (gmF g.2.1)) 0 (nBx g.2.1) (gmM g.2.1)) := by
    unfold Bsz
    rw [Bfa.2 hg]
    rfl
   cases h1 : Baw (slE (gmL g.2.1) (gmO g.2.1) (gmW g.2.1) (gmF g.2.1)) 0 (nBx g.2.1) (gmM g.2.1) with
   | inr e => rw [h1] at e1; rw [Bx2 e1]; rfl
   | inl ms =>
    rw [h1] at e1
    rw [Bx1 e1]
    have hms : ms.length = nBx g.2.1 := Bb1 (n := nBx g.2.1) (Inv := fun _ (s : Bam) => s.length = nBx g.2.1) (fun i s s' hi hl h => Cjl (m := g.2.1) i s s' hi hl h) (nBx g.2.1) 0 _ _ (by omega) hg.ms h1
    have hy : Cyu f tyG g.2 ms = some (Bta f g.2 (Baw (tkE (ctG g.2.1)) 0 16 (ms, gmO g.2.1, gk g.2))) := D42 (x := g.2) (s := (ms, gmO g.2.1, gk g.2)) (k0 := (gk g.2).length) hg.sz hg.n hp ⟨hms, hg.os, by show (gk g.2).length ≤ (gk g.2).length + 0; omega⟩ hk
    rw [hy]
    simp only
    cases Baw (tkE (ctG g.2.1)) 0 16 (ms, gmO g.2.1, gk g.2) with
    | inl s => rfl
    | inr e =>
     have h1 : isP 49 .i64 (some (Bta f g.2 (.inr e))) = true := Blg
     have h2 : panO 49 .i64 (some (Bta f g.2 (.inr e))) = ⟨e, ((), ())⟩ := Bh9
     unfold Cyt
     rw [h1, h2]
     rfl
theorem Cyx (Y : TY) (g : (FL_g 53).T) : Bn3 (X_ti 53 Y) (Bcv (X_ti 53 Y) 6) 54 (ofKs (FL_g 53).ks g.1 (FL_g 53).nx) ((FL_g 53).lay.hp g) ((FL_g 53).lay.of g).nx (Bv5 (FE_u 53)) = T_ti 53 Y g.2 := by kernel_rfl
theorem Crn : Bbn Tryz.prog 54 (spYT 53 Bz5) := by
 rw [spYT, Crm]
 exact Bpm (Crl Cvs (Cys Cvs)) 6 Blj _ _ _ _ (fun g => T_ti 53 tyG g.2) (Cyx tyG) fun _ _ _ h => Cyw h
end St
end V
end Go.Proofs.YtcfanlgpkefogaaGreat
namespace Go.Proofs.YtcfanlgpkefogaaGreat
open Go.RowKit
namespace V
theorem Bdh {S B : Type} {f : Nat → S → S ⊕ B} : ∀ (k i : Nat) (s : S) (b : B), Baw f i k s = .inr b → ∃ j t, f j t = .inr b
 | 0, _, _, _, h => by cases h
 | k + 1, i, s, b, h => by
  unfold Baw at h
  cases hf : f i s with
  | inl t => rw [hf] at h; exact Bdh k (i + 1) t b h
  | inr c => rw [hf] at h; cases h; exact ⟨i, s, hf⟩
namespace St
theorem is_sTick : FnIs Tryz.prog (14, Tryz.f14) := ⟨Tryz.func14, by kernel_rfl, by kernel_rfl⟩
theorem is_newGame : FnIs Tryz.prog (45, Tryz.f45) := ⟨Tryz.func45, by kernel_rfl, by kernel_rfl⟩
theorem is_sTry : FnIs Tryz.prog (47, Tryz.f47) := ⟨Tryz.func47, by kernel_rfl, by kernel_rfl⟩
theorem is_sTry1 : FnIs Tryz.prog (97, Tryz.f97) := ⟨Tryz.func97, by kernel_rfl, by kernel_rfl⟩
theorem is_clMot : FnIs Tryz.prog (95, Tryz.f95) := ⟨Tryz.func95, by kernel_rfl, by kernel_rfl⟩
theorem is_clBool : FnIs Tryz.prog (96, Tryz.f96) := ⟨Tryz.func96, by kernel_rfl, by kernel_rfl⟩
theorem Cyy {l : TCT Bao} {os : List Bool} {w fl : Int} {i : Nat} {ms : Bam} {e : Int} (h : slE l os w fl i ms = .inr e) : e ≠ 0 := by
 unfold slE at h
 cases h1 : !Bbs ms os i || Bdp w fl i with
 | true => rw [h1] at h; cases h
 | false =>
  rw [h1] at h
  cases h2 : Bed l (Bah ms i).1 != 0 with
  | true => rw [h2] at h; cases h; exact bne_iff_ne.1 h2
  | false =>
   rw [h2] at h
   cases h3 : (Bkb l (Bah ms i)).2.1 != 0 with
   | true => rw [h3] at h; cases h; decide
   | false => rw [h3] at h; cases h
theorem Cyz {bl : List (TCT No)} {os : List Bool} {i : Nat} {ms : Bam} {e : Int} (h : stE bl os i ms = .inr e) : e ≠ 0 := by
 unfold stE at h
 cases h1 : !Bbs ms os i with
 | true => rw [h1] at h; cases h
 | false =>
  rw [h1] at h
  cases h3 : (Bmt (Bd1 bl i) (Bah ms i)).2.1 != 0 with
  | true => rw [h3] at h; cases h; exact bne_iff_ne.1 h3
  | false => rw [h3] at h; cases h
theorem Cz0 {bl : List (TCT No)} {l : TCT Bao} {t st : Int} {n : Nat} {s : S2} {e : Int} (h : mvF bl l t st n s = .inr e) : e ≠ 0 := by
 unfold mvF at h
 cases h1 : Baw (stE bl s.2.1) 0 n s.1 with
 | inr e' =>
  rw [h1] at h
  cases h
  obtain ⟨j, t, hj⟩ := Bdh _ _ _ _ h1
  exact Cyz hj
 | inl ms =>
  rw [h1] at h
  obtain ⟨s', hs'⟩ := Bpo (C9w (l := l) (t := t) (st := st)) n 0 (ms, s.2.1, s.2.2)
  change Baw (lvE l t st) 0 n (ms, s.2.1, s.2.2) = .inr e at h
  rw [hs'] at h
  cases h
theorem Bz6 {bl : List (TCT No)} {c : TCT Bbw} {t st w fl : Int} {n : Nat} {s : S2} {e : Int} (h : seF bl c t st w fl n s = .inr e) : e ≠ 0 := by
 unfold seF at h
 cases he : (seS bl c w fl n s).2.2.1 != 0 with
 | true => rw [he] at h; cases h; exact bne_iff_ne.1 he
 | false => rw [he] at h; cases h
theorem Cz1 {b : TCT No} {c : TCT Bbw} {ps : Dss} {os : List Bool} {w fl t st : Int} {i k : Nat} {s : MK} {e : Int} (h : bpE b c ps os w fl t st i k s = .inr (.inr e)) : e ≠ 0 := by
 unfold bpE at h
 cases h1 : !Bbs s.1 os i || Bdp w fl i with
 | true => rw [h1] at h; cases h
 | false =>
  rw [h1] at h
  cases h2 : (bmV b (Bah s.1 i) (Bdu ps k) c).2.1 == 0 with
  | true => rw [h2] at h; cases h
  | false =>
   rw [h2] at h
   cases h3 : (bmV b (Bah s.1 i) (Bdu ps k) c).2.1 == 4 with
   | true =>
    rw [h3] at h
    cases h
    exact beq_eq_false_iff_ne.1 h2
   | false => rw [h3] at h; cases h
theorem Cz2 {bl : List (TCT No)} {c : TCT Bbw} {ps : Dss} {t st w fl : Int} {n : Nat} {s : S2} {e : Int} (h : buF bl c ps t st w fl n s = .inr e) : e ≠ 0 := by
 unfold buF at h
 obtain ⟨j, u, hj⟩ := Bdh _ _ _ _ h
 unfold boE at hj
 cases hf : Baw (bpE (Bd1 bl j) c ps s.2.1 w fl t st j) 0 ps.length u with
 | inl a => rw [hf] at hj; cases hj
 | inr y =>
  rw [hf] at hj
  obtain ⟨k, v, hk⟩ := Bdh _ _ _ _ hf
  have : y = .inr e := hj
  subst this
  exact Cz1 hk
theorem Cz3 {k : CT} {i : Nat} {s : S2} {e : Int} (h : tkE k i s = .inr e) : e ≠ 0 := by
 unfold tkE at h
 cases h1 : mvF k.bl k.l k.t ((i + 1 : Nat) : Int) k.bl.length s with
 | inr e' => rw [h1] at h; cases h; exact Cz0 h1
 | inl s1 =>
  rw [h1] at h
  simp only at h
  cases h2 : seF k.bl k.c k.t ((i + 1 : Nat) : Int) k.w k.fl k.bl.length s1 with
  | inr e' => rw [h2] at h; cases h; exact Bz6 h2
  | inl s2 =>
   rw [h2] at h
   simp only at h
   cases h3 : buF k.bl k.c k.ps k.t ((i + 1 : Nat) : Int) k.w k.fl k.bl.length (s2.1, s1.2.1, s2.2) with
   | inr e' => rw [h3] at h; cases h; exact Cz2 h3
   | inl s3 => rw [h3] at h; cases h
theorem Cz4 {k : CT} {s : S2} {e : Int} (h : tkF k s = .inr e) : e ≠ 0 := by
 unfold tkF at h
 cases h0 : k.t == 4000 with
 | true => rw [h0] at h; cases h; decide
 | false =>
  rw [h0] at h
  simp only [cond_false] at h
  cases h1 : Baw (slE k.l s.2.1 k.w k.fl) 0 k.bl.length s.1 with
  | inr e' =>
   rw [h1] at h
   cases h
   obtain ⟨j, t, hj⟩ := Bdh _ _ _ _ h1
   exact Cyy hj
  | inl ms =>
   rw [h1] at h
   obtain ⟨j, t, hj⟩ := Bdh _ _ _ _ h
   exact Cz3 hj
def ctS (g : TCT cGr) (s : TCT cSt) : CT := ⟨V1 g, g.1, g.2.2.1, Bgj g.1, s.2.2.1, s.2.2.2.1, s.2.2.2.2.1⟩
abbrev TkR : Type := TCTs [cSt, .sl cKn, cI]
def Bje (e : Int) : TkR := (zS, [], e, ())
def tkR (s : TCT cSt) : S2 ⊕ Int → TkR
 | .inl r => ((r.1, r.2.1, s.2.2.1, max 0 (W64 (s.2.2.2.1 - 1)), W64 (s.2.2.2.2.1 + 1), ()), r.2.2, 0, ())
 | .inr e => Bje e
def tkV (g : TCT cGr) (s : TCT cSt) : TkR := tkR s (tkF (ctS g s) (msT s, osT s, []))
def TickV (g : TCT cGr) (s : TCT cSt) : TkR := bif Be4 g s != 0 then Bje (Be4 g s) else tkV g s
def C2l (r : TkR) : TkR := (etaS r.1, r.2.1, r.2.2.1, ())
abbrev Cro : PureT := Bbb [cGr, cSt] [cSt, .sl cKn, cI] (fun x => decide ((x.1.1.1.size : Int) ≤ Bb2 .i64)) (fun x => C2l (TickV x.1 x.2.1))
abbrev TTR := Tree TkR
def gT (g : TCT cGr) (s : TCT cSt) : GB := ((g.1.1, g.1.2.1, g.1.2.2.1, g.1.2.2.2.1, g.1.2.2.2.2.1, g.1.2.2.2.2.2.1.1.1, g.1.2.2.2.2.2.1.1.2.1, g.1.2.2.2.2.2.1.2.1, g.1.2.2.2.2.2.2.1, g.1.2.2.2.2.2.2.2.1, g.1.2.2.2.2.2.2.2.2.1, g.2.1, g.2.2.1.1, g.2.2.1.2.1, Bgj g.1, ([] ++ s.1), ([] ++ s.2.1), s.2.2.1, s.2.2.2.1, s.2.2.2.2.1, 0, ((), (), ()), ()), ([], ()), ())
def neT {β : Type} {c : Type} (l : List c) (k : Tree β) : Tree β := bif !List.isEmpty l then k else .fail
theorem Bz7 {β : Type} {c : Type} {l : List c} {k : Tree β} (h : 1 ≤ l.length) : neT l k = k := by
 cases l with
 | nil => simp at h
 | cons _ _ => rfl
def acT {β : Type} {c : Type} (l : List c) (b : Nat) (k : Tree β) : Tree β := bif Bd8 [] l b then k else .fail
theorem Bz8 {β : Type} {c : Type} {l : List c} {b : Nat} {k : Tree β} (h : l.length ≤ 1000) (hb : b ≤ 48) : acT l b k = k := by
 unfold acT
 rw [Bkm (by simp; omega) hb]; rfl
def Crp (Y : Y2) (g : TCT cGr) (s : TCT cSt) : TTR := szT g.1 (bif Be4 g s != 0 then .leaf (Bje (Be4 g s)) else szT g.1 (neT (msT s) (acT (msT s) 48 (neT (osT s) (acT (osT s) 1 (
 thY (Y (gT g s)) z2 (fun e => bif e != 0 then .leaf (Bje e) else .fail) fun r => .leaf (tkR s (.inl r))))))))
abbrev plTk : List (Nat × PureT) := (25, Byq) :: plGm
theorem puTk : Bc7 Tryz.prog plTk := puOk_cons is_Posts.plain C9g puGm
noncomputable def D7e : List (Nat × Func) := [(14, Tryz.f14), (45, Tryz.f45), (47, Tryz.f47), (97, Tryz.f97), (95, Tryz.f95), (96, Tryz.f96)]
noncomputable def D45 (Y : Y2) : Ctx := Bv8 Tryz.prog plTk D7e [] [(54, spYT 53 Y)]
theorem Crq (Y : Y2) (x : TCTs [cGr, cSt]) : Bcv (D45 Y) 8 (.fn 14) (Bde [cGr, cSt] x) Bbv 0 (Bgq Tryz.prog [cSt, .sl cKn, cI]) = Crp Y x.1 x.2.1 := by kernel_rfl
theorem Crr : CtxOk (D45 Bz5) := Bg9 Ban puTk (fns_cons is_sTick (fns_cons is_newGame (fns_cons is_sTry (fns_cons is_sTry1 (fns_cons is_clMot (fns_cons is_clBool Fq)))))) Bir (fun p hp => by
 rw [List.mem_singleton] at hp; subst hp; exact ⟨is_gtick.plain, Crn⟩)
theorem Btb {l : TCT Bao} : (Bgj l).length ≤ 25 := by
 unfold Bgj
 cases h : Bc1 l == 0 with
 | false => show (0 : Nat) ≤ 25; omega
 | true =>
  have k : Bc1 l = 0 := beq_iff_eq.1 h
  have hh : (Bay l).length ≤ 12 := by
   unfold Bc1 Bk3 at k
   cases h1 : decide (((Bay l).length : Int) < 1) || (decide (((Bay l).length : Int) > 12) || decide (((Bca l).length : Int) > 256)) with
   | true => rw [h1] at k; cases k
   | false =>
    simp only [Bool.or_eq_false_iff, decide_eq_false_iff_not] at h1
    omega
  show (Bbk l).length ≤ 25
  rw [Bwv]
  omega
structure StaOk (g : TCT cGr) (s : TCT cSt) : Prop where
 gr : groE g = 0
 n1 : 1 ≤ (V1 g).length
 n8 : (V1 g).length ≤ 8
 m : (msT s).length = (V1 g).length
 o : (osT s).length = (V1 g).length
 ok : Bfo (okS g (osT s)) 0 (msT s) = true
 num : Byu (V1 g).length s = false
theorem C6w {g : TCT cGr} {s : TCT cSt} (h : Be4 g s = 0) : StaOk g s := by
 unfold Be4 at h
 cases h1 : groE g != 0 with
 | true => rw [h1, cond_true] at h; exact absurd h (bne_iff_ne.1 h1)
 | false =>
  have hg : groE g = 0 := bne_eq_false_iff_eq.1 h1
  rw [h1, cond_false] at h
  unfold vaE at h
  cases h2 : Bvy g s with
  | false => rw [h2] at h; cases h
  | true =>
   rw [h2, cond_true] at h
   cases h3 : Bfo (okS g (osT s)) 0 (msT s) with
   | false => rw [h3] at h; cases h
   | true =>
    rw [h3, cond_true] at h
    cases h4 : Byu (V1 g).length s with
    | true => rw [h4] at h; cases h
    | false =>
     have a := C9s hg
     have b := Bsq h2
     exact ⟨hg, a.1, a.2, b.1, b.2, h3, h4⟩
theorem Crs {g : TCT cGr} {s : TCT cSt} (hs : (g.1.1.size : Int) ≤ Bb2 .i64) (h : StaOk g s) : Cda (gT g s) = true := by
 unfold Cda C2f Bmu
 simp only [Bool.and_eq_true, decide_eq_true_eq]
 refine ⟨⟨⟨Bfa.2 ⟨hs, ?_, ?_, h.n8⟩, by show (0 : Nat) ≤ 900000; omega⟩, ?_⟩, by show (0 : Nat) ≤ 700000; omega⟩
 ·show ([] ++ s.1 : Bam).length = (V1 g).length
  rw [List.nil_append]; exact h.m
 ·show ([] ++ s.2.1 : List Bool).length = (V1 g).length
  rw [List.nil_append]; exact h.o
 ·have := Btb (l := g.1)
  show (Bgj g.1).length ≤ 1000
  omega
theorem Crt {g : TCT cGr} {s : TCT cSt} (hs : (g.1.1.size : Int) ≤ Bb2 .i64) (h : StaOk g s) : Bz5 (gT g s) = some (tkF (ctS g s) (msT s, osT s, [])) := by
 unfold Bz5
 rw [Crs hs h]
 rfl
theorem Cru {g : TCT cGr} {s : TCT cSt} (hs : (g.1.1.size : Int) ≤ Bb2 .i64) : (Crp Bz5 g s).sat (fun y => y = C2l (TickV g s)) := by
 unfold Crp TickV
 rw [Bco hs, Bco hs]
 cases h1 : Be4 g s != 0 with
 | true => exact rfl
 | false =>
  have h := C6w (bne_eq_false_iff_eq.1 h1)
  have hn1 := h.n1
  have hn8 := h.n8
  have hm := h.m
  have ho := h.o
  simp only [cond_false]
  rw [Bz7 (by omega), Bz8 (by omega) (by decide), Bz7 (by omega), Bz8 (by omega) (by decide)]
  have hy := Crt hs h
  unfold tkV
  cases hf : tkF (ctS g s) (msT s, osT s, []) with
  | inl r => rw [hf] at hy; rw [Bx1 hy]; exact rfl
  | inr e =>
   rw [hf] at hy
   rw [Bx2 hy, show (e != 0) = true from bne_iff_ne.2 (Cz4 hf)]
   exact rfl
theorem Cad : Bai Tryz.prog 14 Cro := Bbd Crr 8 (fun x => Crp Bz5 x.1 x.2.1) (Crq Bz5) fun x hok _ => Cru (of_decide_eq_true hok)
end St
end V
end Go.Proofs.YtcfanlgpkefogaaGreat
namespace Go.Proofs.YtcfanlgpkefogaaGreat
open Go.RowKit
namespace V
namespace St
theorem is_sStrike : FnIs Tryz.prog (11, Tryz.f11) := ⟨Tryz.func11, by kernel_rfl, by kernel_rfl⟩
def ex2 : Bam := [((50000, 60106, ()), (0, 190000, ()), (0, -12800, ()), ()), ((80000, 60000, ()), (0, 0, ()), (0, 0, ()), ())]
end St
end V
end Go.Proofs.YtcfanlgpkefogaaGreat
namespace Go.Proofs.YtcfanlgpkefogaaGreat
open Go.RowKit
namespace V
namespace St
def Cow (a b : TCT Bau) : Bool := (a.1.1 == b.1.1 && (a.1.2.1 == b.1.2.1 && true)) && ((a.2.1.1 == b.2.1.1 && (a.2.1.2.1 == b.2.1.2.1 && true)) && ((a.2.2.1.1 == b.2.2.1.1 && (a.2.2.1.2.1 == b.2.2.1.2.1 && true)) && true))
end St
end V
end Go.Proofs.YtcfanlgpkefogaaGreat
