import Derived.Test.YtkiaifmbbnnliaaGreatBA
namespace Go.Proofs.YtkiaifmbbnnliaaGreat
open Go.RowKit
namespace V
namespace St
noncomputable def B4h : Code := (A8 (bodyOf Tryz.f23)).getD 0 .skip
abbrev kPt : List SK := [.d cI, .d cI]
def A4r : Lay := { keys := [4, 17, 18, 19], ks := [.p 2 0 0 0, .d (.sl Ai), .d cI, .d cI], bs := [(2, 24, kPt)], n := 39, nx := 1000, marks := [] }
def B8m : Lay := { keys := [4], ks := [.p 2 0 0 0], bs := [(2, 24, kPt)], n := 39, nx := 1000, marks := [] }
def A19 : XE → Lay := fun _ => B8m
def Ak7 (m : List (TCT Ai)) (n i : Int) (p : SKTs kPt) : A4r.T := (((), m, n, i, ()), (p, ()))
def Ak8 (p : SKTs kPt) : A1 A19 := ⟨.exit 0, (((), ()), (p, ()))⟩
def A90 (p : SKTs kPt) (m : TCT Ai) : SKTs kPt := (W64 (p.1 + m.2.1.1), W64 (p.2.1 + m.2.1.2.1), ())
def Ux (m : List (TCT Ai)) (n i : Int) (p : SKTs kPt) : Tree (A4r.T ⊕ A1 A19) := bif decide (i < n) then inN m.length i (.leaf (.inl (Ak7 m n (W64 (i + 1)) (A90 p (Aq m (Int.toNat i) (Ao Ai)))))) else .leaf (.inr (Ak8 p))
def Ac9 (g : A4r.T) : Tree (A4r.T ⊕ A1 A19) := Ux g.1.2.1 g.1.2.2.1 g.1.2.2.2.1 g.2.1
def Ak9 (g : A4r.T) : Nat := (g.1.2.1 : List (TCT Ai)).length + 1
theorem B8n : Aj Tryz.prog 23 B4h (Ac A4r A19 (C3 [.exit 0] Ac9 Ak9)) := Ay (Ad Ab A8u A2) 7 _ A4r A19 (fun e => by cases e <;> exact Nat.le_refl _) [.exit 0] Ac9 Ak9 (fun g => by kernel_rfl)
def A1a (m : List (TCT Ai)) (i : Nat) (p : SKTs kPt) : SKTs kPt ⊕ Unit := .inl (A90 p (Aq m i (Ao Ai)))
def p0 : SKTs kPt := (0, 0, ())
def gP : SKTs kPt ⊕ Unit → SKTs kPt
 | .inl p => p
 | .inr _ => p0
def Az0 (r : SKTs kPt ⊕ Unit) : A1 A19 := Ak8 (gP r)
def Pt (m : List (TCT Ai)) : SKTs kPt := gP (Ar (A1a m) 0 m.length p0)
def B4i (s : TCT cSt) : Option (A1 A19) := iter Ac9 ((msT s).length + 1) (Ak7 s.1 (msT s).length 0 p0)
theorem Arx {s : TCT cSt} (hm : ((msT s).length : Int) ≤ As .i64) : B4i s = some (Ak8 (Pt (msT s))) := by
 refine G8 (msT s).length (fun i p => Ak7 s.1 (msT s).length i p) (A1a (msT s)) Az0 (fun _ _ => True) (fun i p hi _ => ?_) (fun _ _ _ _ _ _ => trivial) (fun p _ => ?_) (msT s).length 0 p0 (by omega) trivial
 ·show (Ux (msT s) (msT s).length (i : Int) p).run = _
  unfold Ux A1a
  rw [decide_eq_true (show (i : Int) < ((msT s).length : Int) by omega), Ef (by omega), show Int.toNat (i : Int) = i from rfl, Cj hi hm]
  rfl
 ·show (Ux (msT s) (msT s).length ((msT s).length : Int) p).run = _
  unfold Ux
  rw [decide_eq_false (show ¬ ((msT s).length : Int) < ((msT s).length : Int) by omega)]
  rfl
abbrev TPe := Tree (TCTs [cPt, cI])
def lfP (p : SKTs kPt) (e : Int) : TPe := .leaf ((p.1, p.2.1, ()), e, ())
def B8o (y : Option (A1 A19)) : TPe := bif isE (.exit 0) y then lfP (C0 (.exit 0) y).2.1 0 else .fail
def Im (g : TCT cGr) (s : TCT cSt) : SKTs kPt := bif Dy g s != 0 then p0 else Pt (msT s)
abbrev B4j : PureT := B4 [cGr, cSt] [cPt, cI] (fun x => decide ((x.1.1.1.size : Int) ≤ As .i64)) (fun x => (((Im x.1 x.2.1).1, (Im x.1 x.2.1).2.1, ()), Dy x.1 x.2.1, ()))
theorem Ary {g : TCT cGr} {s : TCT cSt} {k : TPe} (h : k = lfP (Pt (msT s)) 0) : (bif Dy g s != 0 then lfP p0 (Dy g s) else k).sat (fun y => y = (((Im g s).1, (Im g s).2.1, ()), Dy g s, ())) := by
 unfold Im
 cases hs : Dy g s != 0 with
 | true => exact rfl
 | false =>
  have := bne_eq_false_iff_eq.1 hs
  simp only [cond_false]
  rw [this, h]
  exact rfl
noncomputable def B8p : Ctx := Hk Tryz.prog Arw [(23, Tryz.f23)] [((23, 5), Ac A4r A19 (C3 [.exit 0] Ac9 Ak9))]
theorem Arz : CtxOk B8p := Bw Ab Ayz (fns_cons is_a4 A2) (Bk (by kernel_rfl) (by kernel_rfl) B8n)
theorem Aka : A7 Tryz.prog 23 B4j := B2 Arz 7 (fun x => szT x.1.1 (bif Dy x.1 x.2.1 != 0 then lfP p0 (Dy x.1 x.2.1) else B8o (B4i x.2.1))) (fun x => by kernel_rfl) fun x hok hw => by
 rw [C5 (of_decide_eq_true hok)]
 refine Ary ?_
 rw [Arx (Fs hw.2.1.1)]
 rfl
end St
def isL {A B : Type} : Option (A ⊕ B) → Bool
 | some (.inl _) => true
 | _ => false
def isR {A B : Type} : Option (A ⊕ B) → Bool
 | some (.inr _) => true
 | _ => false
def gL {A B : Type} (d : A) : Option (A ⊕ B) → A
 | some (.inl a) => a
 | _ => d
def gR {A B : Type} (d : B) : Option (A ⊕ B) → B
 | some (.inr b) => b
 | _ => d
def FLay.dfl (F : FLay) : F.T := (dflKs F.ks, B2w F.bs)
theorem Kk {α : Type} {t : Tree α} {R S : α → Prop} (h : t.sat R) (k : ∀ x, R x → S x) : t.sat S := by
 induction t with
 | leaf a => exact k a h
 | need p t ih => exact ⟨h.1, ih h.2⟩
 | br c t e i1 i2 => exact ⟨fun x => i1 (h.1 x), fun x => i2 (h.2 x)⟩
 | fail => exact h
def Az1 {L : FLay} {E : Bool → FLay} (c : L.T → Bool) (r : L.T → (E true).T) (g : L.T) : Tree (Bx E) := .br (c g) (.leaf ⟨true, r g⟩) .fail
theorem A1b {X : Ctx} (hX : CtxOk X) {f : FuncId} (m : Nat) {probe : Aa → List AV → Option (List Nat)} {L : FLay} {E : Bool → FLay} (hE : ∀ b, L.nx ≤ (E b).nx) (c : L.T → Bool) (r : L.T → (E true).T) (T : L.T → Tree (Bx E))
  (he : ∀ g, Kv X (Ch X m) f (ofKs L.ks g.1 L.nx) (L.lay.hp g) (L.lay.of g).nx (Qz E) = T g)
  (h : ∀ g, L.lay.WF g → c g = true → (T g).run = some ⟨true, r g⟩) : Bb X.P f (Hy probe L E (Az1 c r)) :=
 Xf hX m hE fun g R hw hf => by
  rw [he]
  cases hc : c g with
  | false => exact (hf.2 hc).elim
  | true => exact Kk (Tree.sat_run (h g hw hc) (hf.1 hc)) fun x hx _ => hx
namespace St
theorem is_a5 : FnIs Tryz.prog (159, Tryz.f159) := ⟨Tryz.func159, by kernel_rfl, by kernel_rfl⟩
theorem is_a6 : FnIs Tryz.prog (113, Tryz.f113) := ⟨Tryz.func113, by kernel_rfl, by kernel_rfl⟩
theorem is_a7 : FnIs Tryz.prog (115, Tryz.f115) := ⟨Tryz.func115, by kernel_rfl, by kernel_rfl⟩
theorem is_a8 : FnIs Tryz.prog (57, Tryz.f57) := ⟨Tryz.func57, by kernel_rfl, by kernel_rfl⟩
theorem is_a9 : FnIs Tryz.prog (122, Tryz.f122) := ⟨Tryz.func122, by kernel_rfl, by kernel_rfl⟩
theorem is_ba : FnIs Tryz.prog (123, Tryz.f123) := ⟨Tryz.func123, by kernel_rfl, by kernel_rfl⟩
theorem is_bb : FnIs Tryz.prog (58, Tryz.f58) := ⟨Tryz.func58, by kernel_rfl, by kernel_rfl⟩
theorem is_bc : FnIs Tryz.prog (124, Tryz.f124) := ⟨Tryz.func124, by kernel_rfl, by kernel_rfl⟩
theorem is_bd : FnIs Tryz.prog (68, Tryz.f68) := ⟨Tryz.func68, by kernel_rfl, by kernel_rfl⟩
theorem is_be : FnIs Tryz.prog (67, Tryz.f67) := ⟨Tryz.func67, by kernel_rfl, by kernel_rfl⟩
theorem is_bf : FnIs Tryz.prog (53, Tryz.f53) := ⟨Tryz.func53, by kernel_rfl, by kernel_rfl⟩
abbrev kGm (f : Nat) : List SK := [.d .s, .d cI, .d cI, .d cI, .d (.sl Bg), .d cI, .d cI, .d cI, .d cI, .d cI, .d (.sl C1), .d (.sl A3), .d cI, .d cI, .d (.sl Al), .w 2 62 Ai, .o 4 .b, .d cI, .d cI, .d cI, .d cI, .f f [] [.p 1 0 0 0]]
abbrev bsG (f : Nat) : List BK := [(0, 99, kGm f), (1, 43, [.o 57 cKn])]
abbrev GM : Type := SKTs (kGm 0)
abbrev Kns : Type := List (TCT cKn)
abbrev Ae : Type := List (TCT Ai)
def gmX (m : GM) : SKTs kGr := (m.1, m.2.1, m.2.2.1, m.2.2.2.1, m.2.2.2.2.1, m.2.2.2.2.2.1, m.2.2.2.2.2.2.1, m.2.2.2.2.2.2.2.1, m.2.2.2.2.2.2.2.2.1, m.2.2.2.2.2.2.2.2.2.1, m.2.2.2.2.2.2.2.2.2.2.1, m.2.2.2.2.2.2.2.2.2.2.2.1, m.2.2.2.2.2.2.2.2.2.2.2.2.1, m.2.2.2.2.2.2.2.2.2.2.2.2.2.1, ())
def gmP (m : GM) : List (TCT Al) := m.2.2.2.2.2.2.2.2.2.2.2.2.2.2.1
def gmM (m : GM) : Ae := m.2.2.2.2.2.2.2.2.2.2.2.2.2.2.2.1
def gmO (m : GM) : List Bool := m.2.2.2.2.2.2.2.2.2.2.2.2.2.2.2.2.1
def gmW (m : GM) : Int := m.2.2.2.2.2.2.2.2.2.2.2.2.2.2.2.2.2.1
def gmF (m : GM) : Int := m.2.2.2.2.2.2.2.2.2.2.2.2.2.2.2.2.2.2.1
def gmT (m : GM) : Int := m.2.2.2.2.2.2.2.2.2.2.2.2.2.2.2.2.2.2.2.1
def gmS (m : GM) : Int := m.2.2.2.2.2.2.2.2.2.2.2.2.2.2.2.2.2.2.2.2.1
def gmU (m : GM) (ms : Ae) (os : List Bool) : GM := (m.1, m.2.1, m.2.2.1, m.2.2.2.1, m.2.2.2.2.1, m.2.2.2.2.2.1, m.2.2.2.2.2.2.1, m.2.2.2.2.2.2.2.1, m.2.2.2.2.2.2.2.2.1, m.2.2.2.2.2.2.2.2.2.1, m.2.2.2.2.2.2.2.2.2.2.1, m.2.2.2.2.2.2.2.2.2.2.2.1, m.2.2.2.2.2.2.2.2.2.2.2.2.1, m.2.2.2.2.2.2.2.2.2.2.2.2.2.1, m.2.2.2.2.2.2.2.2.2.2.2.2.2.2.1, ms, os, m.2.2.2.2.2.2.2.2.2.2.2.2.2.2.2.2.2.1, m.2.2.2.2.2.2.2.2.2.2.2.2.2.2.2.2.2.2.1, m.2.2.2.2.2.2.2.2.2.2.2.2.2.2.2.2.2.2.2.1, m.2.2.2.2.2.2.2.2.2.2.2.2.2.2.2.2.2.2.2.2.1, m.2.2.2.2.2.2.2.2.2.2.2.2.2.2.2.2.2.2.2.2.2.1, ())
def gmB (m : GM) : List (TCT A3) := blX (gmX m)
def gmL (m : GM) : TCT An := lwG (gmX m)
abbrev GB : Type := GM × SKTs [.o 0 cKn] × Unit
def gb (m : GM) (k : Kns) : GB := (m, (k, ()), ())
def Tf : List (Nat × PureT) := (73, Zg) :: (160, Pr) :: (161, A2r) :: (162, A2n) :: (163, A2p) :: (114, Q0) :: Arw
def As0 : List AV → List Nat
 | [] => []
 | .own i :: l => i :: As0 l
 | _ :: l => As0 l
def Js (hp : Aa) (args : List AV) : Option (List Nat) := match args with
 | .ptr id _ _ _ :: _ => match hp id with
  | some (.blk b) => match nth b.cs 21 with
   | some (.fn _ _ [.ptr k _ _ _]) => match hp k with
    | some (.blk c) => some (id :: k :: (As0 b.cs ++ As0 c.cs))
    | _ => none
   | _ => none
  | _ => none
 | _ => none
def A4s (f : Nat) : FLay := { ks := [.p 0 0 0 0, .d cI], bs := bsG f, nx := 1000 }
def B8q (f : Nat) : FLay := { ks := [.d .b], bs := bsG f, nx := 1000 }
def FN : FLay := { ks := [.i 44 .i64], bs := [], nx := 1000 }
def Y9 (f : Nat) (b : Bool) : FLay := bif b then B8q f else FN
def inO {β : Type} (n : Nat) (i : Int) (k : Tree β) : Tree β := inN n i (bif decide (Int.toNat i < n) then k else .fail)
theorem E3 {β : Type} {n : Nat} {i : Int} {k : Tree β} (h : 0 ≤ i ∧ i < (n : Int)) : inO n i k = k := by
 unfold inO
 rw [Ef h, decide_eq_true (by omega)]; rfl
def C2 (ms : Ae) (os : List Bool) (i : Nat) : Bool := !Aq os i (Ao .b) && A4q (Aq ms i (Ao Ai))
def Eg (w fl i : Int) : Bool := (i == w) && decide (fl > 0)
def Ya (ms : Ae) (os : List Bool) (i : Int) : Bool := decide (0 ≤ i ∧ i < (os.length : Int) ∧ i < (ms.length : Int))
def lfB (f : Nat) (b : Bool) (x : GB) : Tree (Bx (Y9 f)) := .leaf ⟨true, ((b, ()), x)⟩
def T_ro (f : Nat) (i : Int) (m : GM) (x : GB) : Tree (Bx (Y9 f)) := inO (gmO m).length i (bif !Aq (gmO m) (Int.toNat i) (Ao .b) then inO (gmM m).length i (lfB f (A4q (Aq (gmM m) (Int.toNat i) (Ao Ai))) x) else lfB f false x)
abbrev C_ro (f : Nat) (g : (A4s f).T) : Bool := Ya g.2.1.2.2.2.2.2.2.2.2.2.2.2.2.2.2.2.1 g.2.1.2.2.2.2.2.2.2.2.2.2.2.2.2.2.2.2.1 g.1.2.1
def V_ro (f : Nat) (g : (A4s f).T) : (Y9 f true).T := ((C2 g.2.1.2.2.2.2.2.2.2.2.2.2.2.2.2.2.2.1 g.2.1.2.2.2.2.2.2.2.2.2.2.2.2.2.2.2.2.1 (Int.toNat g.1.2.1), ()), g.2)
def C_fl (f : Nat) (_ : (A4s f).T) : Bool := true
def V_fl (f : Nat) (g : (A4s f).T) : (Y9 f true).T := ((Eg g.2.1.2.2.2.2.2.2.2.2.2.2.2.2.2.2.2.2.2.1 g.2.1.2.2.2.2.2.2.2.2.2.2.2.2.2.2.2.2.2.2.1 g.1.2.1, ()), g.2)
def T_fl (f : Nat) (i : Int) (m : GM) (x : GB) : Tree (Bx (Y9 f)) := bif i == gmW m then lfB f (decide (gmF m > 0)) x else lfB f false x
theorem Tn {f : Nat} (b : Bool) : 1000 ≤ (Y9 f b).nx := by cases b <;> exact Nat.le_refl _
theorem Akb {f : Nat} {g : (A4s f).T} (h : C_ro f g = true) : (T_ro f g.1.2.1 g.2.1 g.2).run = some ⟨true, V_ro f g⟩ := by
 have hd : 0 ≤ g.1.2.1 ∧ g.1.2.1 < ((gmO g.2.1).length : Int) ∧ g.1.2.1 < ((gmM g.2.1).length : Int) := of_decide_eq_true h
 unfold V_ro
 show (T_ro f g.1.2.1 g.2.1 g.2).run = some (⟨true, ((C2 (gmM g.2.1) (gmO g.2.1) (Int.toNat g.1.2.1), ()), g.2)⟩ : Bx (Y9 f))
 unfold T_ro C2
 rw [E3 ⟨hd.1, hd.2.1⟩, E3 ⟨hd.1, hd.2.2⟩]
 cases Aq (gmO g.2.1) (Int.toNat g.1.2.1) (Ao .b) <;> rfl
theorem Akc {f : Nat} {g : (A4s f).T} : (T_fl f g.1.2.1 g.2.1 g.2).run = some ⟨true, V_fl f g⟩ := by
 unfold V_fl
 show (T_fl f g.1.2.1 g.2.1 g.2).run = some (⟨true, ((Eg (gmW g.2.1) (gmF g.2.1) g.1.2.1, ()), g.2)⟩ : Bx (Y9 f))
 unfold T_fl Eg
 cases g.1.2.1 == gmW g.2.1 <;> rfl
abbrev sp_ro (f : Nat) : Aa → Nat → List AV → Tree (Out × Aa × Nat) := Hy Js (A4s f) (Y9 f) (Az1 (fun g => Ya g.2.1.2.2.2.2.2.2.2.2.2.2.2.2.2.2.2.1 g.2.1.2.2.2.2.2.2.2.2.2.2.2.2.2.2.2.2.1 g.1.2.1) (V_ro f))
abbrev sp_fl (f : Nat) : Aa → Nat → List AV → Tree (Out × Aa × Nat) := Hy Js (A4s f) (Y9 f) (Az1 (fun _ => true) (V_fl f))
theorem Uy : Bu Tryz.prog Tf := A0 is_aY.plain Awv (A0 is_aP.plain Ajl (A0 is_Slow.plain B2g (A0 is_Step.plain B2d (A0 is_Bump.plain B2f (A0 is_Settle.plain A66 Ayz)))))
noncomputable def B8r : Ctx := ctx Tryz.prog Tf [(159, Tryz.f159), (113, Tryz.f113)]
theorem To : CtxOk B8r := Ad Ab Uy (fns_cons is_a5 (fns_cons is_a6 A2))
theorem Fd : Bb Tryz.prog 159 (sp_ro 67) := A1b To 6 Tn (C_ro 67) (V_ro 67) (fun g => T_ro 67 g.1.2.1 g.2.1 g.2) (fun g => by kernel_rfl) fun _ _ h => Akb h
theorem Fe : Bb Tryz.prog 113 (sp_fl 67) := A1b To 6 Tn (C_fl 67) (V_fl 67) (fun g => T_fl 67 g.1.2.1 g.2.1 g.2) (fun g => by kernel_rfl) fun _ _ _ => Akc
theorem Tp : Bb Tryz.prog 159 (sp_ro 53) := A1b To 6 Tn (C_ro 53) (V_ro 53) (fun g => T_ro 53 g.1.2.1 g.2.1 g.2) (fun g => by kernel_rfl) fun _ _ h => Akb h
theorem Tq : Bb Tryz.prog 113 (sp_fl 53) := A1b To 6 Tn (C_fl 53) (V_fl 53) (fun g => T_fl 53 g.1.2.1 g.2.1 g.2) (fun g => by kernel_rfl) fun _ _ _ => Akc
end St
def Uz {L : FLay} {E : Bool → FLay} {A : Type} (Y : L.T → Option (A ⊕ Int)) (mk : L.T → A → (E true).T) (pn : Int → (E false).T) (d : A) (g : L.T) : Tree (Bx E) :=
 .br (isL (Y g)) (.leaf ⟨true, mk g (gL d (Y g))⟩) (.br (isR (Y g)) (.leaf ⟨false, pn (gR 0 (Y g))⟩) .fail)
def Yb {L : FLay} {E : Bool → FLay} {A : Type} (mk : L.T → A → (E true).T) (pn : Int → (E false).T) (g : L.T) : A ⊕ Int → Bx E
 | .inl a => ⟨true, mk g a⟩
 | .inr e => ⟨false, pn e⟩
theorem Akd {L : FLay} {E : Bool → FLay} {A : Type} {Y : L.T → Option (A ⊕ Int)} {mk : L.T → A → (E true).T} {pn : Int → (E false).T} {d : A} {g : L.T} {R : Bx E → Prop} (h : (Uz Y mk pn d g).sat R) : ∃ z, Y g = some z ∧ R (Yb mk pn g z) := by
 unfold Uz at h
 obtain ⟨h1, h2⟩ := h
 cases hF : Y g with
 | none =>
  rw [hF] at h2
  exact ((h2 rfl).2 rfl).elim
 | some z =>
  cases z with
  | inl a => rw [hF] at h1; exact ⟨_, rfl, h1 rfl⟩
  | inr b => rw [hF] at h2; exact ⟨_, rfl, (h2 rfl).1 rfl⟩
theorem Rf {X : Ctx} (hX : CtxOk X) {f : FuncId} (m : Nat) {probe : Aa → List AV → Option (List Nat)} {L : FLay} {E : Bool → FLay} (hE : ∀ b, L.nx ≤ (E b).nx) {A : Type} (Y : L.T → Option (A ⊕ Int)) (mk : L.T → A → (E true).T) (pn : Int → (E false).T) (d : A) (T : L.T → Tree (Bx E))
  (he : ∀ g, Kv X (Ch X m) f (ofKs L.ks g.1 L.nx) (L.lay.hp g) (L.lay.of g).nx (Qz E) = T g)
  (h : ∀ g z, L.lay.WF g → Y g = some z → (T g).run = some (Yb mk pn g z)) : Bb X.P f (Hy probe L E (Uz Y mk pn d)) :=
 Xf hX m hE fun g R hw hf => by
  rw [he]
  obtain ⟨z, hz, hr⟩ := Akd hf
  exact Kk (Tree.sat_run (h g z hw hz) hr) fun x hx _ => hx
namespace St
def nBx (m : GM) : Nat := (gmB m).length
def Ake (m : GM) : Bool := decide ((m.1.size : Int) ≤ As .i64) && (decide ((gmM m).length = nBx m) && (decide ((gmO m).length = nBx m) && decide (nBx m ≤ 8)))
structure OkGM (m : GM) : Prop where
 sz : (m.1.size : Int) ≤ As .i64
 ms : (gmM m).length = nBx m
 os : (gmO m).length = nBx m
 n : nBx m ≤ 8
theorem G9 {m : GM} : Ake m = true ↔ OkGM m := by
 unfold Ake
 simp only [Bool.and_eq_true, decide_eq_true_eq]
 exact ⟨fun h => ⟨h.1, h.2.1, h.2.2.1, h.2.2.2⟩, fun h => ⟨h.sz, h.ms, h.os, h.n⟩⟩
def FL_g (f : Nat) : FLay := { ks := [.p 0 0 0 0], bs := bsG f, nx := 1000 }
def B8s (f : Nat) : FLay := { ks := [], bs := bsG f, nx := 1000 }
def FE_u (f : Nat) (b : Bool) : FLay := bif b then B8s f else FN
theorem N4 {f : Nat} (b : Bool) : 1000 ≤ (FE_u f b).nx := by cases b <;> exact Nat.le_refl _
def pnU (f : Nat) (e : Int) : (FE_u f false).T := ((e, ()), ())
def mkU (f : Nat) (x : GB) : (FE_u f true).T := ((), x)
def spG (f : Nat) : List (Nat × (Aa → Nat → List AV → Tree (Out × Aa × Nat))) := [(159, sp_ro f), (113, sp_fl f)]
theorem K1 {P : Program} {f g : Nat} {sp sq : Aa → Nat → List AV → Tree (Out × Aa × Nat)} (h : Plain P f) (k : Bb P f sp) (h2 : Plain P g) (k2 : Bb P g sq) : ∀ p ∈ [(f, sp), (g, sq)], Plain P p.1 ∧ Bb P p.1 p.2 := fun p hp => by
 simp only [List.mem_cons, List.not_mem_nil, or_false] at hp
 rcases hp with rfl | rfl
 ·exact ⟨h, k⟩
 ·exact ⟨h2, k2⟩
theorem K2 {P : Program} {fns : List (Nat × Func)} : ∀ p ∈ fns, ∀ d ∈ A8 (bodyOf p.2), ∀ g, Bo ([] : List ((Nat × Nat) × (St → Tree (XE × St)))) p.1 (keyOf d) = some g → Aj P p.1 d g := fun _ _ _ _ _ h => by simp [Bo] at h
noncomputable def B8t (f : Nat) : Ctx := S7 Tryz.prog Tf [(57, Tryz.f57)] [] (spG f)
theorem As1 {f : Nat} (h1 : Bb Tryz.prog 159 (sp_ro f)) (h2 : Bb Tryz.prog 113 (sp_fl f)) : CtxOk (B8t f) := Fj Ab Uy (fns_cons is_a8 A2) K2 (K1 is_a5.plain h1 is_a6.plain h2)
noncomputable def Awy : Code := (A8 (bodyOf Tryz.f122)).getD 0 .skip
def Af3 (f : Nat) : Lay := { keys := [0, 13, 14], ks := [.p 0 0 0 0, .d cI, .d cI], bs := bsG f, n := 80, nx := 2000, marks := [] }
def B8u (f : Nat) : Lay := { keys := [], ks := [], bs := bsG f, n := 80, nx := 2000, marks := [] }
def B8v : Lay := { keys := [], ks := [], bs := [], n := 80, nx := 2000, marks := [] }
def A91 (f : Nat) : XE → Lay := fun e => match e with | .panic _ => B8v | _ => B8u f
def Ln (l : TCT An) (m : TCT Ai) : TCTs [cPt, cI] := Jd (W64 (m.2.1.1 + (O4 l m.1).2.1)) (W64 (m.2.1.2.1 + (O4 l m.1).2.2.1)) (O4 l m.1).1
def A92 (l : TCT An) (m : TCT Ai) : TCT Ai := (m.1, ((Ln l m).1.1, (Ln l m).1.2.1, ()), m.2.2.1, ())
def Ag (ms : Ae) (i : Nat) : TCT Ai := Aq ms i (Ao Ai)
def gk (x : GB) : Kns := x.2.1.1
def O5 (f : Nat) (x : GB) (n i : Int) (ms : Ae) : (Af3 f).T := (((), n, i, ()), (gb (gmU x.1 ms (gmO x.1)) (gk x)))
def Akf (f : Nat) (x : GB) (ms : Ae) : A1 (A91 f) := ⟨.exit 0, ((), (gb (gmU x.1 ms (gmO x.1)) (gk x)))⟩
def Akg (f : Nat) (e : Int) : A1 (A91 f) := ⟨.panic (.ifc 44 (.int .i64 e)), ((), ())⟩
abbrev TSw (f : Nat) := Tree ((Af3 f).T ⊕ A1 (A91 f))
def inT {β : Type} (n : Nat) (i : Int) (k : Tree β) : Tree β := bif decide (Int.toNat i < n) then k else .fail
theorem A93 {β : Type} {n : Nat} {i : Int} {k : Tree β} (h : 0 ≤ i ∧ i < (n : Int)) : inT n i k = k := by unfold inT; rw [decide_eq_true (by omega)]; rfl
def Akh (f : Nat) (x : GB) (n i : Int) (ms : Ae) : TSw f :=
 bif G7 (gmL x.1) (Ag ms (Int.toNat i)).1 != 0 then .leaf (.inr (Akg f (G7 (gmL x.1) (Ag ms (Int.toNat i)).1))) else inT ms.length i (inT ms.length i (
  bif (Ln (gmL x.1) (Ag ms (Int.toNat i))).2.1 != 0 then .leaf (.inr (Akg f 4)) else inT ms.length i (.leaf (.inl (O5 f x n (W64 (i + 1)) (B1 ms (Int.toNat i) (A92 (gmL x.1) (Ag ms (Int.toNat i)))))))))
def szG {β : Type} (m : GM) (k : Tree β) : Tree β := bif decide ((m.1.size : Int) ≤ As .i64) then k else .fail
def V0 (f : Nat) (x : GB) (n i : Int) (ms : Ae) : TSw f := bif decide (i < n) then bif Ya ms (gmO x.1) i then
 bif !C2 ms (gmO x.1) (Int.toNat i) then .leaf (.inl (O5 f x n (W64 (i + 1)) ms)) else bif Eg (gmW x.1) (gmF x.1) i then .leaf (.inl (O5 f x n (W64 (i + 1)) ms)) else
 inO ms.length i (szG x.1 (Akh f x n i ms)) else .fail else .leaf (.inr (Akf f x ms))
def Aki (f : Nat) (g : (Af3 f).T) : TSw f := V0 f g.2 g.1.2.1 g.1.2.2.1 (gmM g.2.1)
def fu_sw (f : Nat) (g : (Af3 f).T) : Nat := Int.toNat g.1.2.1 + 1
def sm_sw (f : Nat) : St → Tree (XE × St) := Ac (Af3 f) (A91 f) (finP 44 .i64 [.exit 0] (Aki f) (fu_sw f))
theorem As2 {f : Nat} (e : XE) : (Af3 f).nx ≤ (A91 f e).nx := by cases e <;> exact Nat.le_refl _
theorem Az2 : Aj Tryz.prog 122 Awy (sm_sw 67) := Nx (As1 Fd Fe) 7 _ _ _ As2 _ _ _ _ (fu_sw 67) (fun g => by kernel_rfl)
def A4t (m : GM) (i : Nat) (ms : Ae) : Ae ⊕ Int :=
 bif !C2 ms (gmO m) i || Eg (gmW m) (gmF m) i then .inl ms else bif G7 (gmL m) (Ag ms i).1 != 0 then .inr (G7 (gmL m) (Ag ms i).1) else
 bif (Ln (gmL m) (Ag ms i)).2.1 != 0 then .inr 4 else .inl (B1 ms i (A92 (gmL m) (Ag ms i)))
def V3 (f : Nat) (x : GB) : Ae ⊕ Int → A1 (A91 f)
 | .inl ms => Akf f x ms
 | .inr e => Akg f e
theorem Be {α : Type} : ∀ (l : List α) (i : Nat) (x : α), (B1 l i x).length = l.length
 | [], _, _ => rfl
 | _ :: _, 0, _ => rfl
 | _ :: l, i + 1, x => by simp only [B1, List.length_cons, Be l i x]
theorem Akj {m : GM} {n : Nat} (i : Nat) (s s' : Ae) (_ : i < n) (hi : s.length = n) (h : A4t m i s = .inl s') : s'.length = n := by
 unfold A4t at h
 cases h1 : !C2 s (gmO m) i || Eg (gmW m) (gmF m) i with
 | true => rw [h1] at h; cases h; exact hi
 | false =>
  rw [h1] at h
  cases h2 : G7 (gmL m) (Ag s i).1 != 0 with
  | true => rw [h2] at h; cases h
  | false =>
   rw [h2] at h
   cases h3 : (Ln (gmL m) (Ag s i)).2.1 != 0 with
   | true => rw [h3] at h; cases h
   | false => rw [h3] at h; cases h; rw [Be]; exact hi
theorem A1c {ms : Ae} {os : List Bool} {i n : Nat} (h : i < n) (h1 : ms.length = n) (h2 : os.length = n) : Ya ms os (i : Int) = true := by
 unfold Ya
 exact decide_eq_true (by omega)
theorem B4k {f : Nat} {x : GB} {ms : Ae} (hx : OkGM x.1) (hm : ms.length = nBx x.1) : iter (Aki f) (nBx x.1 + 1) (O5 f x (nBx x.1) 0 ms) = some (V3 f x (Ar (A4t x.1) 0 (nBx x.1) ms)) := by
 have hn : (nBx x.1 : Int) ≤ As .i64 := by have := hx.n; show (nBx x.1 : Int) ≤ 9223372036854775807; omega
 refine G8 (nBx x.1) (fun i ms => O5 f x (nBx x.1) i ms) (A4t x.1) (V3 f x) (fun _ ms => ms.length = nBx x.1) (fun i ms hi hl => ?_) Akj (fun ms hl => ?_) (nBx x.1) 0 ms (by omega) hm
 ·show (V0 f (gb (gmU x.1 ms (gmO x.1)) (gk x)) (nBx x.1) (i : Int) ms).run = _
  have e : ∀ y z, O5 f (gb (gmU x.1 ms (gmO x.1)) (gk x)) (nBx x.1) y z = O5 f x (nBx x.1) y z := fun _ _ => rfl
  unfold V0
  have hin := A1c hi hl hx.os
  show Tree.run (bif decide ((i : Int) < (nBx x.1 : Int)) then bif Ya ms (gmO x.1) (i : Int) then bif !C2 ms (gmO x.1) i then .leaf (.inl (O5 f x (nBx x.1) (W64 ((i : Int) + 1)) ms)) else bif Eg (gmW x.1) (gmF x.1) i then .leaf (.inl (O5 f x (nBx x.1) (W64 ((i : Int) + 1)) ms)) else
   inO ms.length i (szG x.1 (Akh f x (nBx x.1) i ms)) else .fail else .leaf (.inr (Akf f x ms)) : TSw f) = _
  have hsz : ∀ k : TSw f, szG x.1 k = k := fun k => by unfold szG; rw [decide_eq_true hx.sz]; rfl
  rw [decide_eq_true (show (i : Int) < (nBx x.1 : Int) by omega), hin, E3 (by omega), hsz, Cj hi hn]
  unfold A4t Akh
  rw [A93 (by omega), A93 (by omega), A93 (by omega), show Int.toNat (i : Int) = i from rfl, Cj hi hn]
  cases C2 ms (gmO x.1) i with
  | false => rfl
  | true =>
   cases Eg (gmW x.1) (gmF x.1) i with
   | true => rfl
   | false =>
    simp only [Bool.not_true, Bool.or_self, cond_true, cond_false]
    cases G7 (gmL x.1) (Ag ms i).1 != 0 with
    | true => rfl
    | false =>
     simp only [cond_false]
     cases (Ln (gmL x.1) (Ag ms i)).2.1 != 0 <;> rfl
 ·show (V0 f (gb (gmU x.1 ms (gmO x.1)) (gk x)) (nBx x.1) (nBx x.1) ms).run = _
  unfold V0
  rw [decide_eq_false (show ¬ (nBx x.1 : Int) < (nBx x.1 : Int) by omega)]
  rfl
noncomputable def B8w (f : Nat) : Ctx := S7 Tryz.prog Tf [(122, Tryz.f122)] [((122, 1), sm_sw f)] (spG f)
theorem As3 {f : Nat} (h1 : Bb Tryz.prog 159 (sp_ro f)) (h2 : Bb Tryz.prog 113 (sp_fl f)) (hl : Aj Tryz.prog 122 Awy (sm_sw f)) : CtxOk (B8w f) :=
 Fj Ab Uy (fns_cons is_a9 A2) (Bk (by kernel_rfl) (by kernel_rfl) hl) (K1 is_a5.plain h1 is_a6.plain h2)
def Akk (f : Nat) (x : GB) : Option (A1 (A91 f)) := iter (Aki f) (nBx x.1 + 1) (O5 f x (nBx x.1) 0 (gmM x.1))
def T_slw (f : Nat) (x : GB) : Tree (Bx (FE_u f)) := bif isP 44 .i64 (Akk f x) then .leaf ⟨false, pnU f (panO 44 .i64 (Akk f x)).1⟩ else bif isE (.exit 0) (Akk f x) then .leaf ⟨true, ((), (C0 (.exit 0) (Akk f x)).2)⟩ else .fail
def V4 (x : GB) : Option (Ae ⊕ Int) := bif Ake x.1 then some (Ar (A4t x.1) 0 (nBx x.1) (gmM x.1)) else none
def A94 (f : Nat) (x : GB) (ms : Ae) : (FE_u f true).T := mkU f (gb (gmU x.1 ms (gmO x.1)) (gk x))
abbrev sp_slw (f : Nat) : Aa → Nat → List AV → Tree (Out × Aa × Nat) := Hy Js (FL_g f) (FE_u f) (Uz (fun g : (FL_g f).T => V4 g.2) (fun g => A94 f g.2) (pnU f) [])
theorem As4 {f : Nat} {g : (FL_g f).T} {z : Ae ⊕ Int} (h : V4 g.2 = some z) : (T_slw f g.2).run = some (Yb (L := FL_g f) (E := FE_u f) (fun g => A94 f g.2) (pnU f) g z) := by
 unfold V4 at h
 cases ho : Ake g.2.1 with
 | false => rw [ho] at h; cases h
 | true =>
  rw [ho] at h
  cases h
  have hy : Akk f g.2 = some (V3 f g.2 (Ar (A4t g.2.1) 0 (nBx g.2.1) (gmM g.2.1))) := B4k (G9.1 ho) (G9.1 ho).ms
  unfold T_slw
  rw [hy]
  cases Ar (A4t g.2.1) 0 (nBx g.2.1) (gmM g.2.1) with
  | inl ms => rfl
  | inr e =>
   have h1 : isP 44 .i64 (some (V3 f g.2 (.inr e))) = true := N0
   have h2 : panO 44 .i64 (some (V3 f g.2 (.inr e))) = ⟨e, ((), ())⟩ := Ih
   rw [h1, h2]
   rfl
theorem Akl : Bb Tryz.prog 122 (sp_slw 67) := Rf (As3 Fd Fe Az2) 6 N4 _ _ _ _ (fun g => T_slw 67 g.2) (fun g => by kernel_rfl) fun _ _ _ h => As4 h
end St
theorem Om {P : Program} {f : Nat} {fn : Func} {loops : List ((Nat × Nat) × (St → Tree (XE × St)))} (h : A8 (bodyOf fn) = []) : ∀ d ∈ A8 (bodyOf fn), ∀ g, Bo loops f (keyOf d) = some g → Aj P f d g := by
 intro d hd
 rw [h] at hd
 cases hd
theorem Ia {P : Program} {loops : List ((Nat × Nat) × (St → Tree (XE × St)))} : ∀ q ∈ ([] : List (Nat × Func)), ∀ d ∈ A8 (bodyOf q.2), ∀ g, Bo loops q.1 (keyOf d) = some g → Aj P q.1 d g := fun _ h => nomatch h
theorem E4 {P : Program} {f : Nat} {fn : Func} {rest : List (Nat × Func)} {loops : List ((Nat × Nat) × (St → Tree (XE × St)))} (h : ∀ d ∈ A8 (bodyOf fn), ∀ g, Bo loops f (keyOf d) = some g → Aj P f d g)
  (hr : ∀ q ∈ rest, ∀ d ∈ A8 (bodyOf q.2), ∀ g, Bo loops q.1 (keyOf d) = some g → Aj P q.1 d g) : ∀ q ∈ (f, fn) :: rest, ∀ d ∈ A8 (bodyOf q.2), ∀ g, Bo loops q.1 (keyOf d) = some g → Aj P q.1 d g := by
 intro q hq
 rcases List.mem_cons.1 hq with rfl | hq
 ·exact h
 ·exact hr q hq
def Awz (P : Program) (f : Nat) (loops : List ((Nat × Nat) × (St → Tree (XE × St)))) : List Code → Prop
 | [] => True
 | d :: l => (∀ g, Bo loops f (keyOf d) = some g → Aj P f d g) ∧ Awz P f loops l
theorem Lx {P : Program} {f : Nat} {fn : Func} {loops : List ((Nat × Nat) × (St → Tree (XE × St)))} {ds : List Code} (h : A8 (bodyOf fn) = ds) (ha : Awz P f loops ds) : ∀ d ∈ A8 (bodyOf fn), ∀ g, Bo loops f (keyOf d) = some g → Aj P f d g := by
 rw [h]
 clear h
 induction ds with
 | nil => intro d hd; cases hd
 | cons a l ih =>
  intro d hd
  rcases List.mem_cons.1 hd with rfl | hd
  ·exact ha.1
  ·exact ih ha.2 d hd
theorem I0 {P : Program} {f : Nat} {d : Code} {loops : List ((Nat × Nat) × (St → Tree (XE × St)))} {k : Nat} {s : St → Tree (XE × St)} (hk : keyOf d = k) (ha : Bo loops f k = some s) (h : Aj P f d s) : ∀ g, Bo loops f (keyOf d) = some g → Aj P f d g := by
 intro g hg
 rw [hk, ha] at hg
 cases hg
 exact h
namespace St
noncomputable def Akm : Code := (A8 (bodyOf Tryz.f123)).getD 0 .skip
def Af4 (f : Nat) : Lay := { keys := [0, 12, 13, 14], ks := [.p 0 0 0 0, .d (.sl A3), .d cI, .d cI], bs := bsG f, n := 104, nx := 2000, marks := [] }
def B8x (f : Nat) : Lay := { keys := [0], ks := [.p 0 0 0 0], bs := bsG f, n := 104, nx := 2000, marks := [] }
def B4l : Lay := { keys := [], ks := [], bs := [], n := 104, nx := 3000, marks := [] }
def A4u (f : Nat) : XE → Lay := fun e => match e with | .panic _ => B4l | _ => B8x f
def Rh (b : TCT A3) (m : TCT Ai) : TCTs [Ai, cI] := Lh (bm b m)
def Ec (bl : List (TCT A3)) (i : Nat) : TCT A3 := Aq bl i (Ao A3)
def Zi (f : Nat) (x : GB) (bl : List (TCT A3)) (n i : Int) (ms : Ae) : (Af4 f).T := (((), bl, n, i, ()), (gb (gmU x.1 ms (gmO x.1)) (gk x)))
def Akn (f : Nat) (x : GB) (ms : Ae) : A1 (A4u f) := ⟨.exit 0, (((), ()), (gb (gmU x.1 ms (gmO x.1)) (gk x)))⟩
def Ax0 (f : Nat) (e : Int) : A1 (A4u f) := ⟨.panic (.ifc 44 (.int .i64 e)), ((), ())⟩
abbrev TM1 (f : Nat) := Tree ((Af4 f).T ⊕ A1 (A4u f))
def Ako (f : Nat) (x : GB) (bl : List (TCT A3)) (n i : Int) (ms : Ae) : TM1 f := inO ms.length i (bif (Rh (Ec bl (Int.toNat i)) (Ag ms (Int.toNat i))).2.1 != 0 then .leaf (.inr (Ax0 f (Rh (Ec bl (Int.toNat i)) (Ag ms (Int.toNat i))).2.1)) else
 inO ms.length i (.leaf (.inl (Zi f x bl n (W64 (i + 1)) (B1 ms (Int.toNat i) (Rh (Ec bl (Int.toNat i)) (Ag ms (Int.toNat i))).1)))))
def A95 (f : Nat) (x : GB) (bl : List (TCT A3)) (n i : Int) (ms : Ae) : TM1 f := bif decide (i < n) then inN bl.length i (bif Ya ms (gmO x.1) i then bif C2 ms (gmO x.1) (Int.toNat i) then Ako f x bl n i ms else .leaf (.inl (Zi f x bl n (W64 (i + 1)) ms)) else .fail) else .leaf (.inr (Akn f x ms))
def Akp (f : Nat) (g : (Af4 f).T) : TM1 f := A95 f g.2 g.1.2.1 g.1.2.2.1 g.1.2.2.2.1 (gmM g.2.1)
def fu_m1 (f : Nat) (g : (Af4 f).T) : Nat := Int.toNat g.1.2.2.1 + 1
def sm_m1 (f : Nat) : St → Tree (XE × St) := Ac (Af4 f) (A4u f) (finP 44 .i64 [.exit 0] (Akp f) (fu_m1 f))
theorem As5 {f : Nat} (e : XE) : (Af4 f).nx ≤ (A4u f e).nx := by cases e <;> first | exact Nat.le_refl _ | exact (by decide : (2000 : Nat) ≤ 3000)
def stE (bl : List (TCT A3)) (os : List Bool) (i : Nat) (ms : Ae) : Ae ⊕ Int := bif !C2 ms os i then .inl ms else bif (Rh (Ec bl i) (Ag ms i)).2.1 != 0 then .inr (Rh (Ec bl i) (Ag ms i)).2.1 else .inl (B1 ms i (Rh (Ec bl i) (Ag ms i)).1)
def Ri (f : Nat) (x : GB) : Ae ⊕ Int → A1 (A4u f)
 | .inl ms => Akn f x ms
 | .inr e => Ax0 f e
theorem A96 {bl : List (TCT A3)} {os : List Bool} {n : Nat} (i : Nat) (s s' : Ae) (_ : i < n) (hi : s.length = n) (h : stE bl os i s = .inl s') : s'.length = n := by
 unfold stE at h
 cases h1 : !C2 s os i with
 | true => rw [h1] at h; cases h; exact hi
 | false =>
  rw [h1] at h
  cases h3 : (Rh (Ec bl i) (Ag s i)).2.1 != 0 with
  | true => rw [h3] at h; cases h
  | false => rw [h3] at h; cases h; rw [Be]; exact hi
theorem B4m {f : Nat} {x : GB} {ms : Ae} (hx : OkGM x.1) (hm : ms.length = nBx x.1) : iter (Akp f) (nBx x.1 + 1) (Zi f x (gmB x.1) (nBx x.1) 0 ms) = some (Ri f x (Ar (stE (gmB x.1) (gmO x.1)) 0 (nBx x.1) ms)) := by
 have hn : (nBx x.1 : Int) ≤ As .i64 := by have := hx.n; show (nBx x.1 : Int) ≤ 9223372036854775807; omega
 refine G8 (nBx x.1) (fun i ms => Zi f x (gmB x.1) (nBx x.1) i ms) (stE (gmB x.1) (gmO x.1)) (Ri f x) (fun _ ms => ms.length = nBx x.1) (fun i ms hi hl => ?_) A96 (fun ms hl => ?_) (nBx x.1) 0 ms (by omega) hm
 ·show Tree.run (bif decide ((i : Int) < (nBx x.1 : Int)) then inN (nBx x.1) i (bif Ya ms (gmO x.1) i then bif C2 ms (gmO x.1) i then Ako f x (gmB x.1) (nBx x.1) i ms else .leaf (.inl (Zi f x (gmB x.1) (nBx x.1) (W64 ((i : Int) + 1)) ms)) else .fail) else .leaf (.inr (Akn f x ms)) : TM1 f) = _
  rw [decide_eq_true (show (i : Int) < (nBx x.1 : Int) by omega), Ef (by omega), A1c hi hl hx.os, Cj hi hn]
  unfold stE Ako
  rw [E3 (by omega), E3 (by omega), show Int.toNat (i : Int) = i from rfl, Cj hi hn]
  cases C2 ms (gmO x.1) i with
  | false => rfl
  | true =>
   simp only [Bool.not_true, cond_true, cond_false]
   cases (Rh (Ec (gmB x.1) i) (Ag ms i)).2.1 != 0 <;> rfl
 ·show (A95 f (gb (gmU x.1 ms (gmO x.1)) (gk x)) (gmB x.1) (nBx x.1) (nBx x.1) ms).run = _
  unfold A95
  rw [decide_eq_false (show ¬ (nBx x.1 : Int) < (nBx x.1 : Int) by omega)]
  rfl
noncomputable def Akq : Code := (A8 (bodyOf Tryz.f123)).getD 1 .skip
def Af5 (f : Nat) : Lay := { keys := [0, 52, 53], ks := [.p 0 0 0 0, .d cI, .d cI], bs := bsG f, n := 104, nx := 3000, marks := [] }
def B8y (f : Nat) : Lay := { keys := [], ks := [], bs := bsG f, n := 104, nx := 3000, marks := [] }
def A97 (f : Nat) : XE → Lay := fun e => match e with | .panic _ => B4l | _ => B8y f
abbrev S2 : Type := Ae × List Bool × Kns
def kn (t s k b o : Int) : TCT cKn := (t, s, k, b, o, ())
def B4n (m : TCT Ai) : TCT Ai := (m.1, (0, 0, ()), m.2.2.1, ())
def Zj (f : Nat) (x : GB) (n i : Int) (s : S2) : (Af5 f).T := (((), n, i, ()), (gb (gmU x.1 s.1 s.2.1) s.2.2))
def Akr (f : Nat) (x : GB) (s : S2) : A1 (A97 f) := ⟨.exit 2, ((), (gb (gmU x.1 s.1 s.2.1) s.2.2))⟩
abbrev TM2 (f : Nat) := Tree ((Af5 f).T ⊕ A1 (A97 f))
def Af6 {β : Type} (ks : Kns) (k : TCT cKn) (t : Kns → Tree β) : Tree β := bif Ey ks [k] 40 then t (ks ++ [k]) else .fail
def V5 (f : Nat) (x : GB) (n i : Int) (ms : Ae) (os : List Bool) (ks : Kns) : TM2 f := bif decide (i < n) then inO os.length i (bif !Aq os (Int.toNat i) (Ao .b) then inO ms.length i (
 bif !onB (gmL x.1) (Ag ms (Int.toNat i)).1 then inO os.length i (inO ms.length i (Af6 ks (kn (gmT x.1) (gmS x.1) 2 i 0) fun ks' => .leaf (.inl (Zj f x n (W64 (i + 1)) (B1 ms (Int.toNat i) (B4n (Ag ms (Int.toNat i))), B1 os (Int.toNat i) true, ks')))))
 else .leaf (.inl (Zj f x n (W64 (i + 1)) (ms, os, ks)))) else .leaf (.inl (Zj f x n (W64 (i + 1)) (ms, os, ks)))) else .leaf (.inr (Akr f x (ms, os, ks)))
def Aks (f : Nat) (g : (Af5 f).T) : TM2 f := V5 f g.2 g.1.2.1 g.1.2.2.1 (gmM g.2.1) (gmO g.2.1) (gk g.2)
def fu_m2 (f : Nat) (g : (Af5 f).T) : Nat := Int.toNat g.1.2.1 + 1
def sm_m2 (f : Nat) : St → Tree (XE × St) := Ac (Af5 f) (A97 f) (C3 [.exit 2] (Aks f) (fu_m2 f))
theorem As6 {f : Nat} (e : XE) : (Af5 f).nx ≤ (A97 f e).nx := by cases e <;> exact Nat.le_refl _
noncomputable def B8z (f : Nat) (c : Nat × Func) : Ctx := S7 Tryz.prog Tf [(57, Tryz.f57), (115, Tryz.f115), c] [] (spG f)
theorem H7 {f : Nat} {c : Nat × Func} (hc : FnIs Tryz.prog c) (h1 : Bb Tryz.prog 159 (sp_ro f)) (h2 : Bb Tryz.prog 113 (sp_fl f)) : CtxOk (B8z f c) := Fj Ab Uy (fns_cons is_a8 (fns_cons is_a7 (fns_cons hc A2))) K2 (K1 is_a5.plain h1 is_a6.plain h2)
theorem Az3 : Aj Tryz.prog 123 Akm (sm_m1 67) := Nx (H7 is_be Fd Fe) 7 _ _ _ As5 _ _ _ _ (fu_m1 67) (fun g => by kernel_rfl)
theorem Az4 : Aj Tryz.prog 123 Akq (sm_m2 67) := Ay (H7 is_be Fd Fe) 7 _ _ _ As6 _ _ (fu_m2 67) (fun g => by kernel_rfl)
def lvE (l : TCT An) (t st : Int) (i : Nat) (s : S2) : S2 ⊕ Int := bif !Aq s.2.1 i (Ao .b) then bif !onB l (Ag s.1 i).1 then .inl (B1 s.1 i (B4n (Ag s.1 i)), B1 s.2.1 i true, s.2.2 ++ [kn t st 2 i 0]) else .inl s else .inl s
def A98 (f : Nat) (x : GB) : S2 ⊕ Int → A1 (A97 f)
 | .inl s => Akr f x s
 | .inr _ => Akr f x ([], [], [])
structure Inv2 (n k : Nat) (i : Nat) (s : S2) : Prop where
 m : s.1.length = n
 o : s.2.1.length = n
 k : s.2.2.length ≤ k + i
theorem Akt {l : TCT An} {t st : Int} {n k : Nat} (i : Nat) (s s' : S2) (_ : i < n) (hi : Inv2 n k i s) (h : lvE l t st i s = .inl s') : Inv2 n k (i + 1) s' := by
 unfold lvE at h
 have hk := hi.k
 cases h1 : !Aq s.2.1 i (Ao .b) with
 | false => rw [h1] at h; cases h; exact ⟨hi.m, hi.o, by omega⟩
 | true =>
  rw [h1] at h
  cases h3 : !onB l (Ag s.1 i).1 with
  | false => rw [h3] at h; cases h; exact ⟨hi.m, hi.o, by omega⟩
  | true => rw [h3] at h; cases h; exact ⟨by rw [Be]; exact hi.m, by rw [Be]; exact hi.o, by simp; omega⟩
theorem B4o {f : Nat} {x : GB} {s : S2} {n k : Nat} (hn8 : n ≤ 8) (hk : k ≤ 900000) (hs : Inv2 n k 0 s) : iter (Aks f) (n + 1) (Zj f x n 0 s) = some (A98 f x (Ar (lvE (gmL x.1) (gmT x.1) (gmS x.1)) 0 n s)) := by
 have hn : (n : Int) ≤ As .i64 := by show (n : Int) ≤ 9223372036854775807; omega
 refine G8 n (fun i s => Zj f x n i s) (lvE (gmL x.1) (gmT x.1) (gmS x.1)) (A98 f x) (Inv2 n k) (fun i s hi hl => ?_) Akt (fun s hl => ?_) n 0 s (by omega) hs
 ·show (V5 f (gb (gmU x.1 s.1 s.2.1) s.2.2) n i s.1 s.2.1 s.2.2).run = _
  unfold V5 lvE Af6
  have h1 := hl.m
  have h2 := hl.o
  have h3 := hl.k
  rw [decide_eq_true (show (i : Int) < (n : Int) by omega), E3 (by omega), E3 (by omega), E3 (by omega), E3 (by omega), show Int.toNat (i : Int) = i from rfl, Cj hi hn, Lw (by simp; omega) (by decide)]
  cases Aq s.2.1 i (Ao .b) with
  | true => rfl
  | false =>
   show (bif !onB (gmL x.1) (Ag s.1 i).1 then _ else _ : TM2 f).run = _
   simp only [Bool.not_false, cond_true]
   cases onB (gmL x.1) (Ag s.1 i).1 <;> rfl
 ·show (V5 f (gb (gmU x.1 s.1 s.2.1) s.2.2) n n s.1 s.2.1 s.2.2).run = _
  unfold V5
  rw [decide_eq_false (show ¬ (n : Int) < (n : Int) by omega)]
  rfl
end St
theorem Rj {S B : Type} {f : Nat → S → S ⊕ B} (h : ∀ i s, ∃ s', f i s = .inl s') : ∀ (k i : Nat) (s : S), ∃ s', Ar f i k s = .inl s'
 | 0, _, s => ⟨s, rfl⟩
 | k + 1, i, s => by
  obtain ⟨s', hs⟩ := h i s
  unfold Ar
  rw [hs]
  exact Rj h k (i + 1) s'
namespace St
theorem Aca {l : TCT An} {t st : Int} (i : Nat) (s : S2) : ∃ s', lvE l t st i s = .inl s' := by
 unfold lvE
 cases !Aq s.2.1 i (Ao .b) with
 | false => exact ⟨_, rfl⟩
 | true => cases !onB l (Ag s.1 i).1 <;> exact ⟨_, rfl⟩
noncomputable def B90 (f : Nat) : Ctx := S7 Tryz.prog Tf [(123, Tryz.f123)] [((123, 1), sm_m1 f), ((123, 9), sm_m2 f)] (spG f)
theorem As7 {f : Nat} (h1 : Bb Tryz.prog 159 (sp_ro f)) (h2 : Bb Tryz.prog 113 (sp_fl f)) (hl : Aj Tryz.prog 123 Akm (sm_m1 f)) (hm : Aj Tryz.prog 123 Akq (sm_m2 f)) : CtxOk (B90 f) :=
 Fj Ab Uy (fns_cons is_ba A2) (E4 (Lx (ds := [Akm, Akq]) (by kernel_rfl) ⟨I0 (k := 1) (by kernel_rfl) rfl hl, I0 (k := 9) (by kernel_rfl) rfl hm, trivial⟩) Ia) (K1 is_a5.plain h1 is_a6.plain h2)
def mvF (bl : List (TCT A3)) (l : TCT An) (t st : Int) (n : Nat) (s : S2) : S2 ⊕ Int := match Ar (stE bl s.2.1) 0 n s.1 with
 | .inl ms => Ar (lvE l t st) 0 n (ms, s.2.1, s.2.2)
 | .inr e => .inr e
def gs (x : GB) : S2 := (gmM x.1, gmO x.1, gk x)
def B4p (f : Nat) (x : GB) : Option (A1 (A4u f)) := iter (Akp f) (nBx x.1 + 1) (Zi f x (gmB x.1) (nBx x.1) 0 (gmM x.1))
def Az5 (f : Nat) (x : GB) : Option (A1 (A97 f)) := iter (Aks f) (nBx x.1 + 1) (Zj f x (nBx x.1) 0 (gs x))
abbrev TU (f : Nat) := Tree (Bx (FE_u f))
def Ax1 (f : Nat) (y : Option (A1 (A97 f))) : TU f := bif isE (.exit 2) y then .leaf ⟨true, ((), (C0 (.exit 2) y).2)⟩ else .fail
def Aku (f : Nat) (y : Option (A1 (A4u f))) : TU f := bif isP 44 .i64 y then .leaf ⟨false, pnU f (panO 44 .i64 y).1⟩ else bif isE (.exit 0) y then Ax1 f (Az5 f (C0 (.exit 0) y).2) else .fail
def T_mv (f : Nat) (x : GB) : TU f := Aku f (B4p f x)
def Oo (x : GB) : Bool := Ake x.1 && decide ((gk x).length ≤ 900000)
def A4v (x : GB) : Option (S2 ⊕ Int) := bif Oo x then some (mvF (gmB x.1) (gmL x.1) (gmT x.1) (gmS x.1) (nBx x.1) (gs x)) else none
def Akv (f : Nat) (x : GB) (s : S2) : (FE_u f true).T := mkU f (gb (gmU x.1 s.1 s.2.1) s.2.2)
abbrev sp_mv (f : Nat) : Aa → Nat → List AV → Tree (Out × Aa × Nat) := Hy Js (FL_g f) (FE_u f) (Uz (fun g : (FL_g f).T => A4v g.2) (fun g => Akv f g.2) (pnU f) ([], [], []))
theorem V6 {x : GB} (h : Oo x = true) : OkGM x.1 ∧ (gk x).length ≤ 900000 := by
 unfold Oo at h
 simp only [Bool.and_eq_true, decide_eq_true_eq] at h
 exact ⟨G9.1 h.1, h.2⟩
theorem Az6 {f : Nat} {g : (FL_g f).T} {z : S2 ⊕ Int} (h : A4v g.2 = some z) : (T_mv f g.2).run = some (Yb (L := FL_g f) (E := FE_u f) (fun g => Akv f g.2) (pnU f) g z) := by
 unfold A4v at h
 cases ho : Oo g.2 with
 | false => rw [ho] at h; cases h
 | true =>
  rw [ho] at h
  cases h
  obtain ⟨hg, hk⟩ := V6 ho
  have hy : B4p f g.2 = some (Ri f g.2 (Ar (stE (gmB g.2.1) (gmO g.2.1)) 0 (nBx g.2.1) (gmM g.2.1))) := B4m hg hg.ms
  unfold T_mv mvF
  rw [hy]
  show (Aku f (some (Ri f g.2 (Ar (stE (gmB g.2.1) (gmO g.2.1)) 0 (nBx g.2.1) (gmM g.2.1))))).run = some (Yb (L := FL_g f) (E := FE_u f) (fun g => Akv f g.2) (pnU f) g (match Ar (stE (gmB g.2.1) (gmO g.2.1)) 0 (nBx g.2.1) (gmM g.2.1) with
   | .inl ms => Ar (lvE (gmL g.2.1) (gmT g.2.1) (gmS g.2.1)) 0 (nBx g.2.1) (ms, gmO g.2.1, gk g.2)
   | .inr e => .inr e))
  cases h1 : Ar (stE (gmB g.2.1) (gmO g.2.1)) 0 (nBx g.2.1) (gmM g.2.1) with
  | inr e =>
   have h1 : isP 44 .i64 (some (Ri f g.2 (.inr e))) = true := N0
   have h2 : panO 44 .i64 (some (Ri f g.2 (.inr e))) = ⟨e, ((), ())⟩ := Ih
   unfold Aku
   rw [h1, h2]
   rfl
  | inl ms =>
   have hms : ms.length = nBx g.2.1 := Ax (n := nBx g.2.1) (Inv := fun _ (s : Ae) => s.length = nBx g.2.1) A96 (nBx g.2.1) 0 _ _ (by omega) hg.ms h1
   have hz : Az5 f (gb (gmU g.2.1 ms (gmO g.2.1)) (gk g.2)) = some (A98 f (gb (gmU g.2.1 ms (gmO g.2.1)) (gk g.2)) (Ar (lvE (gmL g.2.1) (gmT g.2.1) (gmS g.2.1)) 0 (nBx g.2.1) (ms, gmO g.2.1, gk g.2))) :=
    B4o (n := nBx g.2.1) (x := gb (gmU g.2.1 ms (gmO g.2.1)) (gk g.2)) (s := (ms, gmO g.2.1, gk g.2)) (k := (gk g.2).length) hg.n hk ⟨hms, hg.os, by simp⟩
   show (Ax1 f (Az5 f (gb (gmU g.2.1 ms (gmO g.2.1)) (gk g.2)))).run = some (Yb (L := FL_g f) (E := FE_u f) (fun g => Akv f g.2) (pnU f) g (Ar (lvE (gmL g.2.1) (gmT g.2.1) (gmS g.2.1)) 0 (nBx g.2.1) (ms, gmO g.2.1, gk g.2)))
   rw [hz]
   obtain ⟨s', hs'⟩ := Rj (Aca (l := gmL g.2.1) (t := gmT g.2.1) (st := gmS g.2.1)) (nBx g.2.1) 0 (ms, gmO g.2.1, gk g.2)
   rw [hs']
   rfl
theorem As8 : Bb Tryz.prog 123 (sp_mv 67) := Rf (As7 Fd Fe Az3 Az4) 6 N4 _ _ _ _ (fun g => T_mv 67 g.2) (fun g => by kernel_rfl) fun _ _ _ h => Az6 h
end St
def A1d (n : Nat) (p : TCT Ea) : Prop := 0 ≤ p.1 ∧ p.1 < p.2.1 ∧ p.2.1 < (n : Int)
theorem Akw {l : List (TCT A3)} {re dr : Int} {i k n : Nat} {s s' : SS} (h : Dh l re dr i k s = some s') (hik : i < k) (hk : k < n) (hs : ∀ p ∈ s.2, A1d n p) : ∀ p ∈ s'.2, A1d n p := by
 unfold Dh at h
 cases h1 : (B7 (bAt l s.1 i) (bAt l s.1 k) re dr).2.2.1 == 0 with
 | true =>
  rw [h1] at h
  simp only [cond_true, Option.some.injEq] at h
  subst h
  intro p hp
  rcases List.mem_append.1 hp with hp | hp
  ·exact hs p hp
  ·rw [List.mem_singleton] at hp
   subst hp
   exact ⟨Int.natCast_nonneg i, Int.ofNat_lt.2 hik, Int.ofNat_lt.2 hk⟩
 | false =>
  rw [h1, cond_false] at h
  cases h2 : (B7 (bAt l s.1 i) (bAt l s.1 k) re dr).2.2.1 == 4 with
  | true => rw [h2] at h; simp at h
  | false => rw [h2] at h; simp only [cond_false, Option.some.injEq] at h; subst h; exact hs
theorem Akx {l : List (TCT A3)} {re dr : Int} {i n : Nat} : ∀ (f k : Nat) (s s' : SS), inR l re dr i f k s = some s' → i < k → k + f ≤ n → (∀ p ∈ s.2, A1d n p) → ∀ p ∈ s'.2, A1d n p
 | 0, k, s, s', h, _, _, hs => by rw [inR, Option.some.injEq] at h; subst h; exact hs
 | f + 1, k, s, s', h, hik, hk, hs => by
  rw [inR] at h
  cases h1 : Dh l re dr i k s with
  | none => rw [h1] at h; simp at h
  | some s1 =>
   rw [h1, Option.bind_some] at h
   exact Akx f (k + 1) s1 s' h (by omega) (by omega) (Akw h1 hik (by omega) hs)
theorem Acb {l : List (TCT A3)} {re dr : Int} : ∀ (f i : Nat) (s s' : SS), Em l re dr f i s = some s' → i + f = l.length → (∀ p ∈ s.2, A1d l.length p) → (∀ p ∈ s'.2, A1d l.length p) ∧ s'.1.length = s.1.length ∧ s'.2.length ≤ s.2.length + f * l.length
 | 0, i, s, s', h, _, hs => by rw [Ib, Option.some.injEq] at h; subst h; exact ⟨hs, rfl, by omega⟩
 | f + 1, i, s, s', h, hi, hs => by
  rw [Gp] at h
  cases h1 : inR l re dr i (l.length - (i + 1)) (i + 1) s with
  | none => rw [h1] at h; simp at h
  | some s1 =>
   rw [h1, Option.bind_some] at h
   have a := A1x _ _ _ _ h1
   have b := Acb f (i + 1) s1 s' h (by omega) (Akx _ _ _ _ h1 (by omega) (by omega) hs)
   refine ⟨b.1, b.2.1.trans a.1, ?_⟩
   have e : (f + 1) * l.length = f * l.length + l.length := Nat.succ_mul f l.length
   omega
theorem Af7 {l : List (TCT A3)} {s : List (TCT Ai)} {re dr : Int} (h : (Bi l s re dr).2.2.1 = 0) (hl : l.length ≤ 8) : (Bi l s re dr).1.length = s.length ∧ (Bi l s re dr).2.1.length ≤ 64 ∧ ∀ p ∈ (Bi l s re dr).2.1, A1d l.length p := by
 unfold Bi at h ⊢
 cases h1 : I4 l s != 0 with
 | true => rw [h1, cond_true] at h; exact absurd h (bne_iff_ne.1 h1)
 | false =>
  rw [h1, cond_false] at h
  simp only [cond_false]
  cases h2 : !Gh re dr with
  | true => rw [h2] at h; cases h
  | false =>
   rw [h2, cond_false] at h
   simp only [cond_false]
   cases h3 : Em l re dr l.length 0 (s, []) with
   | none => rw [h3] at h; cases h
   | some s' =>
    have a := Acb _ _ _ _ h3 (by omega) (fun p hp => nomatch hp)
    refine ⟨a.2.1, ?_, a.1⟩
    have b : s'.2.length ≤ 0 + l.length * l.length := a.2.2
    have c : l.length * l.length ≤ 8 * 8 := Nat.mul_le_mul hl hl
    show s'.2.length ≤ 64
    omega
def unE {S : Type} : S ⊕ Empty → S
 | .inl s => s
 | .inr e => nomatch e
theorem In {S : Type} (x : S ⊕ Empty) : x = .inl (unE x) := by
 cases x with
 | inl s => rfl
 | inr e => exact nomatch e
namespace St
abbrev kI : SK := .o 3 cI
abbrev kBa : SK := .o 117 A3
abbrev kMo : SK := .o 62 Ai
noncomputable def Acc : Code := (A8 (bodyOf Tryz.f58)).getD 0 .skip
noncomputable def Acd : Code := (A8 (bodyOf Tryz.f58)).getD 1 .skip
noncomputable def Ace : Code := (A8 (bodyOf Tryz.f58)).getD 2 .skip
def Af8 (f : Nat) : Lay := { keys := [0, 2, 3, 4, 18, 19, 20], ks := [.p 0 0 0 0, kI, kBa, kMo, .d (.sl A3), .d cI, .d cI], bs := bsG f, n := 113, nx := 2000, marks := [] }
def B91 (f : Nat) : Lay := { keys := [0, 2, 3, 4], ks := [.p 0 0 0 0, kI, kBa, kMo], bs := bsG f, n := 113, nx := 2000, marks := [] }
def A99 (f : Nat) : XE → Lay := fun _ => B91 f
abbrev GA : Type := List Int × List (TCT A3) × Ae
def Pu (f : Nat) (x : GB) (bl : List (TCT A3)) (n i : Int) (s : GA) : (Af8 f).T := (((), s.1, s.2.1, s.2.2, bl, n, i, ()), x)
def A4w (f : Nat) (x : GB) (s : GA) : A1 (A99 f) := ⟨.exit 0, (((), s.1, s.2.1, s.2.2, ()), x)⟩
abbrev TS1 (f : Nat) := Tree ((Af8 f).T ⊕ A1 (A99 f))
def ap8 {β : Type} (w : List Int) (i : Int) (k : Tree β) : Tree β := bif Ey w [i] 8 then k else .fail
def As9 {β : Type} (w : List (TCT A3)) (i : TCT A3) (k : Tree β) : Tree β := bif Ey w [i] 16 then k else .fail
def Asa {β : Type} (w : Ae) (i : TCT Ai) (k : Tree β) : Tree β := bif Ey w [i] 48 then k else .fail
theorem Az7 {β : Type} {w : List Int} {i : Int} {k : Tree β} (h : w.length ≤ 1000) : ap8 w i k = k := by unfold ap8; rw [Lw (by simp; omega) (by decide)]; rfl
theorem Asb {β : Type} {w : List (TCT A3)} {i : TCT A3} {k : Tree β} (h : w.length ≤ 1000) : As9 w i k = k := by unfold As9; rw [Lw (by simp; omega) (by decide)]; rfl
theorem Asc {β : Type} {w : Ae} {i : TCT Ai} {k : Tree β} (h : w.length ≤ 1000) : Asa w i k = k := by unfold Asa; rw [Lw (by simp; omega) (by decide)]; rfl
def ga1 (i : Int) (b : TCT A3) (m : TCT Ai) (s : GA) : GA := (s.1 ++ [i], s.2.1 ++ [b], s.2.2 ++ [m])
def A9a (f : Nat) (x : GB) (bl : List (TCT A3)) (n i : Int) (s : GA) : TS1 f := bif decide (i < n) then inN bl.length i (inO (gmO x.1).length i (
 bif !Aq (gmO x.1) (Int.toNat i) (Ao .b) then bif !Eg (gmW x.1) (gmF x.1) i then inO (gmM x.1).length i (ap8 s.1 i (As9 s.2.1 (Ec bl (Int.toNat i)) (Asa s.2.2 (Ag (gmM x.1) (Int.toNat i))
  (.leaf (.inl (Pu f x bl n (W64 (i + 1)) (ga1 i (Ec bl (Int.toNat i)) (Ag (gmM x.1) (Int.toNat i)) s)))))))
 else .leaf (.inl (Pu f x bl n (W64 (i + 1)) s)) else .leaf (.inl (Pu f x bl n (W64 (i + 1)) s)))) else .leaf (.inr (A4w f x s))
def Aky (f : Nat) (g : (Af8 f).T) : TS1 f := A9a f g.2 g.1.2.2.2.2.1 g.1.2.2.2.2.2.1 g.1.2.2.2.2.2.2.1 (g.1.2.1, g.1.2.2.1, g.1.2.2.2.1)
def fu_s1 (f : Nat) (g : (Af8 f).T) : Nat := Int.toNat g.1.2.2.2.2.2.1 + 1
def sm_s1 (f : Nat) : St → Tree (XE × St) := Ac (Af8 f) (A99 f) (C3 [.exit 0] (Aky f) (fu_s1 f))
theorem Acf {f : Nat} (e : XE) : (Af8 f).nx ≤ (A99 f e).nx := Nat.le_refl _
def gaE (bl : List (TCT A3)) (ms : Ae) (os : List Bool) (w fl : Int) (i : Nat) (s : GA) : GA ⊕ Empty := .inl (bif !Aq os i (Ao .b) && !Eg w fl i then ga1 i (Ec bl i) (Ag ms i) s else s)
def gaV (bl : List (TCT A3)) (w fl : Int) (n : Nat) (ms : Ae) (os : List Bool) : GA := unE (Ar (gaE bl ms os w fl) 0 n ([], [], []))
structure InvG (n i : Nat) (s : GA) : Prop where
 b : s.2.1.length = s.1.length
 m : s.2.2.length = s.1.length
 k : s.1.length ≤ i
 r : ∀ w ∈ s.1, 0 ≤ w ∧ w < (n : Int)
theorem A9b {bl : List (TCT A3)} {ms : Ae} {os : List Bool} {w fl : Int} {n : Nat} (i : Nat) (s s' : GA) (hi : i < n) (h : InvG n i s) (h2 : gaE bl ms os w fl i s = .inl s') : InvG n (i + 1) s' := by
 unfold gaE at h2
 have hb := h.b
 have hm := h.m
 have hk := h.k
 cases hc : !Aq os i (Ao .b) && !Eg w fl i with
 | false =>
  rw [hc] at h2
  simp only [cond_false, Sum.inl.injEq] at h2
  subst h2
  exact ⟨hb, hm, by omega, h.r⟩
 | true =>
  rw [hc] at h2
  simp only [cond_true, Sum.inl.injEq] at h2
  subst h2
  refine ⟨by simp [ga1, hb], by simp [ga1, hm], by simp [ga1]; omega, fun v hv => ?_⟩
  rcases List.mem_append.1 hv with hv | hv
  ·exact h.r v hv
  ·rw [List.mem_singleton] at hv; subst hv; omega
theorem Acg {bl : List (TCT A3)} {w fl : Int} {n : Nat} {ms : Ae} {os : List Bool} : InvG n n (gaV bl w fl n ms os) :=
 Ax (n := n) (Inv := InvG n) A9b n 0 _ _ (by omega) ⟨rfl, rfl, Nat.le_refl _, fun _ h => absurd h List.not_mem_nil⟩ (In (Ar (gaE bl ms os w fl) 0 n ([], [], [])))
def Az8 (f : Nat) (x : GB) (r : GA ⊕ Empty) : A1 (A99 f) := A4w f x (unE r)
theorem B4q {f : Nat} {x : GB} (hx : OkGM x.1) : iter (Aky f) (nBx x.1 + 1) (Pu f x (gmB x.1) (nBx x.1) 0 ([], [], [])) = some (A4w f x (gaV (gmB x.1) (gmW x.1) (gmF x.1) (nBx x.1) (gmM x.1) (gmO x.1))) := by
 have hn8 := hx.n
 have hos := hx.os
 have hms := hx.ms
 have hn : (nBx x.1 : Int) ≤ As .i64 := by show (nBx x.1 : Int) ≤ 9223372036854775807; omega
 refine G8 (nBx x.1) (fun i s => Pu f x (gmB x.1) (nBx x.1) i s) (gaE (gmB x.1) (gmM x.1) (gmO x.1) (gmW x.1) (gmF x.1)) (Az8 f x) (InvG (nBx x.1)) (fun i s hi hl => ?_) A9b (fun s hl => ?_) (nBx x.1) 0 ([], [], []) (by omega) ⟨rfl, rfl, Nat.le_refl _, fun _ h => absurd h List.not_mem_nil⟩
 ·show Tree.run (bif decide ((i : Int) < (nBx x.1 : Int)) then inN (nBx x.1) i (inO (gmO x.1).length i (
   bif !Aq (gmO x.1) i (Ao .b) then bif !Eg (gmW x.1) (gmF x.1) i then inO (gmM x.1).length i (ap8 s.1 i (As9 s.2.1 (Ec (gmB x.1) i) (Asa s.2.2 (Ag (gmM x.1) i)
    (.leaf (.inl (Pu f x (gmB x.1) (nBx x.1) (W64 (i + 1)) (ga1 i (Ec (gmB x.1) i) (Ag (gmM x.1) i) s)))))))
   else .leaf (.inl (Pu f x (gmB x.1) (nBx x.1) (W64 (i + 1)) s)) else .leaf (.inl (Pu f x (gmB x.1) (nBx x.1) (W64 (i + 1)) s)))) else .leaf (.inr (A4w f x s)) : TS1 f) = _
  have h1 := hl.b
  have h2 := hl.m
  have h3 := hl.k
  rw [decide_eq_true (show (i : Int) < (nBx x.1 : Int) by omega), Ef (by omega), E3 (by omega), E3 (by omega), Az7 (by omega), Asb (by omega), Asc (by omega), Cj hi hn]
  unfold gaE
  cases Aq (gmO x.1) i (Ao .b) with
  | true => rfl
  | false => cases Eg (gmW x.1) (gmF x.1) i <;> rfl
 ·show (A9a f x (gmB x.1) (nBx x.1) (nBx x.1) s).run = _
  unfold A9a
  rw [decide_eq_false (show ¬ (nBx x.1 : Int) < (nBx x.1 : Int) by omega)]
  rfl
def Af9 (f : Nat) : Lay := { keys := [0, 2, 4, 7, 75, 76, 77], ks := [.p 0 0 0 0, .d (.sl cI), .d (.sl Ai), .d (.sl Ea), .d (.sl cI), .d cI, .d cI], bs := bsG f, n := 113, nx := 3000, marks := [] }
def B92 (f : Nat) : Lay := { keys := [0, 2, 7], ks := [.p 0 0 0 0, .d (.sl cI), .d (.sl Ea)], bs := bsG f, n := 113, nx := 3000, marks := [] }
def A9c (f : Nat) : XE → Lay := fun _ => B92 f
abbrev Prs : Type := List (TCT Ea)
def Ach (f : Nat) (x : GB) (W : List Int) (M : Ae) (P : Prs) (W2 : List Int) (n i : Int) (ms : Ae) : (Af9 f).T := (((), W, M, P, W2, n, i, ()), gb (gmU x.1 ms (gmO x.1)) (gk x))
def Akz (f : Nat) (x : GB) (W : List Int) (P : Prs) (ms : Ae) : A1 (A9c f) := ⟨.exit 2, (((), W, P, ()), gb (gmU x.1 ms (gmO x.1)) (gk x))⟩
abbrev TS2 (f : Nat) := Tree ((Af9 f).T ⊕ A1 (A9c f))
def V7 (f : Nat) (x : GB) (W : List Int) (M : Ae) (P : Prs) (W2 : List Int) (n i : Int) (ms : Ae) : TS2 f := bif decide (i < n) then inN W2.length i (inN M.length i (inO ms.length (Aq W2 (Int.toNat i) (Ao cI)) (
 .leaf (.inl (Ach f x W M P W2 n (W64 (i + 1)) (B1 ms (Int.toNat (Aq W2 (Int.toNat i) (Ao cI))) (Ag M (Int.toNat i)))))))) else .leaf (.inr (Akz f x W P ms))
def Al0 (f : Nat) (g : (Af9 f).T) : TS2 f := V7 f g.2 g.1.2.1 g.1.2.2.1 g.1.2.2.2.1 g.1.2.2.2.2.1 g.1.2.2.2.2.2.1 g.1.2.2.2.2.2.2.1 (gmM g.2.1)
def fu_s2 (f : Nat) (g : (Af9 f).T) : Nat := Int.toNat g.1.2.2.2.2.2.1 + 1
def sm_s2 (f : Nat) : St → Tree (XE × St) := Ac (Af9 f) (A9c f) (C3 [.exit 2] (Al0 f) (fu_s2 f))
theorem Aci {f : Nat} (e : XE) : (Af9 f).nx ≤ (A9c f e).nx := Nat.le_refl _
def scE (W : List Int) (M : Ae) (i : Nat) (ms : Ae) : Ae ⊕ Empty := .inl (B1 ms (Int.toNat (Aq W i (Ao cI))) (Ag M i))
def scV (W : List Int) (M ms : Ae) : Ae := unE (Ar (scE W M) 0 W.length ms)
theorem Al1 {W : List Int} {M : Ae} {n k : Nat} (i : Nat) (s s' : Ae) (_ : i < n) (h : s.length = k) (h2 : scE W M i s = .inl s') : s'.length = k := by
 cases h2
 rw [Be]; exact h
theorem Acj {W : List Int} {M ms : Ae} : (scV W M ms).length = ms.length :=
 Ax (n := W.length) (Inv := fun _ (s : Ae) => s.length = ms.length) Al1 W.length 0 ms _ (by omega) rfl (In (Ar (scE W M) 0 W.length ms))
def Az9 (f : Nat) (x : GB) (W : List Int) (P : Prs) (r : Ae ⊕ Empty) : A1 (A9c f) := Akz f x W P (unE r)
theorem B4r {f : Nat} {x : GB} {W : List Int} {M : Ae} {P : Prs} {ms : Ae} {n : Nat} (hW : ∀ w ∈ W, 0 ≤ w ∧ w < (n : Int)) (hM : M.length = W.length) (hms : ms.length = n) (hl : W.length ≤ 1000) :
  iter (Al0 f) (W.length + 1) (Ach f x W M P W W.length 0 ms) = some (Akz f x W P (scV W M ms)) := by
 have hn : (W.length : Int) ≤ As .i64 := by show (W.length : Int) ≤ 9223372036854775807; omega
 refine G8 W.length (fun i s => Ach f x W M P W W.length i s) (scE W M) (Az9 f x W P) (fun _ s => s.length = n) (fun i s hi hs => ?_) Al1 (fun s hs => ?_) W.length 0 ms (by omega) hms
 ·show (V7 f (gb (gmU x.1 s (gmO x.1)) (gk x)) W M P W W.length i s).run = _
  have hw := hW (Aq W i (Ao cI)) (by rw [E5 hi]; exact List.getElem_mem hi)
  unfold V7
  rw [decide_eq_true (show (i : Int) < (W.length : Int) by omega), Ef (by omega), Ef (by omega), show Int.toNat (i : Int) = i from rfl, E3 (by omega), Cj hi hn]
  rfl
 ·show (V7 f (gb (gmU x.1 s (gmO x.1)) (gk x)) W M P W W.length W.length s).run = _
  unfold V7
  rw [decide_eq_false (show ¬ (W.length : Int) < (W.length : Int) by omega)]
  rfl
def Afa (f : Nat) : Lay := { keys := [0, 2, 94, 95, 96], ks := [.p 0 0 0 0, .d (.sl cI), .d (.sl Ea), .d cI, .d cI], bs := bsG f, n := 113, nx := 4000, marks := [] }
def B93 (f : Nat) : Lay := { keys := [], ks := [], bs := bsG f, n := 113, nx := 4000, marks := [] }
def A9d (f : Nat) : XE → Lay := fun _ => B93 f
def Ack (f : Nat) (x : GB) (W : List Int) (P : Prs) (n i : Int) (ks : Kns) : (Afa f).T := (((), W, P, n, i, ()), gb x.1 ks)
def Al2 (f : Nat) (x : GB) (ks : Kns) : A1 (A9d f) := ⟨.exit 4, ((), gb x.1 ks)⟩
abbrev TS3 (f : Nat) := Tree ((Afa f).T ⊕ A1 (A9d f))
def Afb (P : Prs) (i : Nat) : TCT Ea := Aq P i (Ao Ea)
def knP (t st : Int) (W : List Int) (p : TCT Ea) : TCT cKn := kn t st 0 (Aq W (Int.toNat p.1) (Ao cI)) (Aq W (Int.toNat p.2.1) (Ao cI))
def V8 (f : Nat) (x : GB) (W : List Int) (P : Prs) (n i : Int) (ks : Kns) : TS3 f := bif decide (i < n) then inN P.length i (inN W.length (Afb P (Int.toNat i)).1 (inN W.length (Afb P (Int.toNat i)).2.1 (
 Af6 ks (knP (gmT x.1) (gmS x.1) W (Afb P (Int.toNat i))) fun ks' => .leaf (.inl (Ack f x W P n (W64 (i + 1)) ks'))))) else .leaf (.inr (Al2 f x ks))
def Al3 (f : Nat) (g : (Afa f).T) : TS3 f := V8 f g.2 g.1.2.1 g.1.2.2.1 g.1.2.2.2.1 g.1.2.2.2.2.1 (gk g.2)
def fu_s3 (f : Nat) (g : (Afa f).T) : Nat := Int.toNat g.1.2.2.2.1 + 1
def sm_s3 (f : Nat) : St → Tree (XE × St) := Ac (Afa f) (A9d f) (C3 [.exit 4] (Al3 f) (fu_s3 f))
theorem Acl {f : Nat} (e : XE) : (Afa f).nx ≤ (A9d f e).nx := Nat.le_refl _
def kpE (W : List Int) (P : Prs) (t st : Int) (i : Nat) (ks : Kns) : Kns ⊕ Empty := .inl (ks ++ [knP t st W (Afb P i)])
def kpV (W : List Int) (P : Prs) (t st : Int) (ks : Kns) : Kns := unE (Ar (kpE W P t st) 0 P.length ks)
theorem Al4 {W : List Int} {P : Prs} {t st : Int} {n k : Nat} (i : Nat) (s s' : Kns) (_ : i < n) (h : s.length = k + i) (h2 : kpE W P t st i s = .inl s') : s'.length = k + (i + 1) := by
 cases h2
 simp only [List.length_append, List.length_singleton]
 omega
theorem Asd {W : List Int} {P : Prs} {t st : Int} {ks : Kns} : (kpV W P t st ks).length = ks.length + P.length :=
 Ax (n := P.length) (Inv := fun i (s : Kns) => s.length = ks.length + i) Al4 P.length 0 ks _ (by omega) rfl (In (Ar (kpE W P t st) 0 P.length ks))
def Aza (f : Nat) (x : GB) (r : Kns ⊕ Empty) : A1 (A9d f) := Al2 f x (unE r)
theorem B4s {f : Nat} {x : GB} {W : List Int} {P : Prs} {ks : Kns} (hP : ∀ p ∈ P, A1d W.length p) (hk : ks.length ≤ 900000) (hl : P.length ≤ 1000) :
  iter (Al3 f) (P.length + 1) (Ack f x W P P.length 0 ks) = some (Al2 f x (kpV W P (gmT x.1) (gmS x.1) ks)) := by
 have hn : (P.length : Int) ≤ As .i64 := by show (P.length : Int) ≤ 9223372036854775807; omega
 refine G8 P.length (fun i s => Ack f x W P P.length i s) (kpE W P (gmT x.1) (gmS x.1)) (Aza f x) (fun i s => s.length = ks.length + i) (fun i s hi hs => ?_) Al4 (fun s hs => ?_) P.length 0 ks (by omega) rfl
 ·show (V8 f (gb x.1 s) W P P.length i s).run = _
  have hp := hP (Afb P i) (by unfold Afb; rw [E5 hi]; exact List.getElem_mem hi)
  unfold V8 Af6
  rw [decide_eq_true (show (i : Int) < (P.length : Int) by omega), Ef (by omega), show Int.toNat (i : Int) = i from rfl, Ef ⟨hp.1, Int.lt_trans hp.2.1 hp.2.2⟩, Ef ⟨Int.le_trans hp.1 (Int.le_of_lt hp.2.1), hp.2.2⟩, Lw (by simp; omega) (by decide), Cj hi hn]
  rfl
 ·show (V8 f (gb x.1 s) W P P.length P.length s).run = _
  unfold V8
  rw [decide_eq_false (show ¬ (P.length : Int) < (P.length : Int) by omega)]
  rfl
theorem Azb : Aj Tryz.prog 58 Acc (sm_s1 67) := Ay (H7 is_be Fd Fe) 7 _ _ _ Acf _ _ (fu_s1 67) (fun g => by kernel_rfl)
theorem Azc : Aj Tryz.prog 58 Acd (sm_s2 67) := Ay (H7 is_be Fd Fe) 7 _ _ _ Aci _ _ (fu_s2 67) (fun g => by kernel_rfl)
theorem Azd : Aj Tryz.prog 58 Ace (sm_s3 67) := Ay (H7 is_be Fd Fe) 7 _ _ _ Acl _ _ (fu_s3 67) (fun g => by kernel_rfl)
theorem Aze : Aj Tryz.prog 58 Acc (sm_s1 53) := Ay (H7 is_bf Tp Tq) 7 _ _ _ Acf _ _ (fu_s1 53) (fun g => by kernel_rfl)
theorem Azf : Aj Tryz.prog 58 Acd (sm_s2 53) := Ay (H7 is_bf Tp Tq) 7 _ _ _ Aci _ _ (fu_s2 53) (fun g => by kernel_rfl)
theorem Azg : Aj Tryz.prog 58 Ace (sm_s3 53) := Ay (H7 is_bf Tp Tq) 7 _ _ _ Acl _ _ (fu_s3 53) (fun g => by kernel_rfl)
def gmC (m : GM) : TCT Dz := (m.2.2.2.2.2.2.2.2.2.2.2.2.1, m.2.2.2.2.2.2.2.2.2.2.2.2.2.1, ())
noncomputable def A1e (f : Nat) : Ctx := S7 Tryz.prog Tf [(58, Tryz.f58), (57, Tryz.f57)] [((58, 4), sm_s1 f), ((58, 12), sm_s2 f), ((58, 17), sm_s3 f)] (spG f)
theorem Acm {f : Nat} (h1 : Bb Tryz.prog 159 (sp_ro f)) (h2 : Bb Tryz.prog 113 (sp_fl f)) (l1 : Aj Tryz.prog 58 Acc (sm_s1 f)) (l2 : Aj Tryz.prog 58 Acd (sm_s2 f)) (l3 : Aj Tryz.prog 58 Ace (sm_s3 f)) : CtxOk (A1e f) :=
 Fj Ab Uy (fns_cons is_bb (fns_cons is_a8 A2)) (E4 (Lx (ds := [Acc, Acd, Ace]) (by kernel_rfl) ⟨I0 (k := 4) (by kernel_rfl) rfl l1, I0 (k := 12) (by kernel_rfl) rfl l2, I0 (k := 17) (by kernel_rfl) rfl l3, trivial⟩) (E4 (Om (by kernel_rfl)) Ia)) (K1 is_a5.plain h1 is_a6.plain h2)
def seG (bl : List (TCT A3)) (w fl : Int) (n : Nat) (s : S2) : GA := gaV bl w fl n s.1 s.2.1
def seS (bl : List (TCT A3)) (bc : TCT Dz) (w fl : Int) (n : Nat) (s : S2) : Anh := Bi (seG bl w fl n s).2.1 (seG bl w fl n s).2.2 bc.1 bc.2.1
def seF (bl : List (TCT A3)) (bc : TCT Dz) (t st w fl : Int) (n : Nat) (s : S2) : (Ae × Kns) ⊕ Int :=
 bif (seS bl bc w fl n s).2.2.1 != 0 then .inr (seS bl bc w fl n s).2.2.1 else .inl (scV (seG bl w fl n s).1 (seS bl bc w fl n s).1 s.1, kpV (seG bl w fl n s).1 (seS bl bc w fl n s).2.1 t st s.2.2)
def Ax2 (f : Nat) (y : Option (A1 (A9d f))) : TU f := bif isE (.exit 4) y then .leaf ⟨true, ((), (C0 (.exit 4) y).2)⟩ else .fail
def Azh (f : Nat) (x : GB) (W : List Int) (P : Prs) : Option (A1 (A9d f)) := iter (Al3 f) (P.length + 1) (Ack f x W P P.length 0 (gk x))
def B4t (f : Nat) (y : Option (A1 (A9c f))) : TU f := bif isE (.exit 2) y then Ax2 f (Azh f (C0 (.exit 2) y).2 (C0 (.exit 2) y).1.2.1 (C0 (.exit 2) y).1.2.2.1) else .fail
def B4u (f : Nat) (x : GB) (W : List Int) (M : Ae) (P : Prs) : Option (A1 (A9c f)) := iter (Al0 f) (W.length + 1) (Ach f x W M P W W.length 0 (gmM x.1))
def A9e (f : Nat) (x : GB) (W : List Int) (r : Anh) : TU f := bif r.2.2.1 != 0 then .leaf ⟨false, pnU f r.2.2.1⟩ else B4t f (B4u f x W r.1 r.2.1)
def B4v (f : Nat) (y : Option (A1 (A99 f))) : TU f := bif isE (.exit 0) y then A9e f (C0 (.exit 0) y).2 (C0 (.exit 0) y).1.2.1 (Bi (C0 (.exit 0) y).1.2.2.1 (C0 (.exit 0) y).1.2.2.2.1 (gmC (C0 (.exit 0) y).2.1).1 (gmC (C0 (.exit 0) y).2.1).2.1) else .fail
def B4w (f : Nat) (x : GB) : Option (A1 (A99 f)) := iter (Aky f) (nBx x.1 + 1) (Pu f x (gmB x.1) (nBx x.1) 0 ([], [], []))
def T_se (f : Nat) (x : GB) : TU f := B4v f (B4w f x)
def Oq (x : GB) : Option ((Ae × Kns) ⊕ Int) := bif Oo x then some (seF (gmB x.1) (gmC x.1) (gmT x.1) (gmS x.1) (gmW x.1) (gmF x.1) (nBx x.1) (gs x)) else none
def A4x (f : Nat) (x : GB) (s : Ae × Kns) : (FE_u f true).T := mkU f (gb (gmU x.1 s.1 (gmO x.1)) s.2)
abbrev sp_se (f : Nat) : Aa → Nat → List AV → Tree (Out × Aa × Nat) := Hy Js (FL_g f) (FE_u f) (Uz (fun g : (FL_g f).T => Oq g.2) (fun g => A4x f g.2) (pnU f) ([], []))
theorem Al5 {bl : List (TCT A3)} {bc : TCT Dz} {w fl : Int} {n : Nat} {s : S2} (hn : n ≤ 8) (h : (seS bl bc w fl n s).2.2.1 = 0) : (seS bl bc w fl n s).1.length = (seG bl w fl n s).1.length ∧ (seS bl bc w fl n s).2.1.length ≤ 64 ∧ ∀ p ∈ (seS bl bc w fl n s).2.1, A1d (seG bl w fl n s).1.length p := by
 have hg : InvG n n (seG bl w fl n s) := Acg
 have a := Af7 (l := (seG bl w fl n s).2.1) (s := (seG bl w fl n s).2.2) (re := bc.1) (dr := bc.2.1) h (by rw [hg.b]; have := hg.k; omega)
 rw [hg.b] at a
 exact ⟨a.1.trans hg.m, a.2.1, a.2.2⟩
theorem Al6 {f : Nat} {g : (FL_g f).T} {z : (Ae × Kns) ⊕ Int} (h : Oq g.2 = some z) : (T_se f g.2).run = some (Yb (L := FL_g f) (E := FE_u f) (fun g => A4x f g.2) (pnU f) g z) := by
 unfold Oq at h
 cases ho : Oo g.2 with
 | false => rw [ho] at h; cases h
 | true =>
  rw [ho] at h
  cases h
  obtain ⟨hg, hk⟩ := V6 ho
  unfold T_se
  rw [show B4w f g.2 = some (A4w f g.2 (seG (gmB g.2.1) (gmW g.2.1) (gmF g.2.1) (nBx g.2.1) (gs g.2))) from B4q hg]
  show (A9e f g.2 (seG (gmB g.2.1) (gmW g.2.1) (gmF g.2.1) (nBx g.2.1) (gs g.2)).1 (seS (gmB g.2.1) (gmC g.2.1) (gmW g.2.1) (gmF g.2.1) (nBx g.2.1) (gs g.2))).run = _
  unfold seF A9e
  have hn8 := hg.n
  cases he : (seS (gmB g.2.1) (gmC g.2.1) (gmW g.2.1) (gmF g.2.1) (nBx g.2.1) (gs g.2)).2.2.1 != 0 with
  | true => rfl
  | false =>
   have hs := Al5 hn8 (bne_eq_false_iff_eq.1 he)
   have hi : InvG (nBx g.2.1) (nBx g.2.1) (seG (gmB g.2.1) (gmW g.2.1) (gmF g.2.1) (nBx g.2.1) (gs g.2)) := Acg
   have hik := hi.k
   simp only [cond_false]
   rw [show B4u f g.2 (seG (gmB g.2.1) (gmW g.2.1) (gmF g.2.1) (nBx g.2.1) (gs g.2)).1 (seS (gmB g.2.1) (gmC g.2.1) (gmW g.2.1) (gmF g.2.1) (nBx g.2.1) (gs g.2)).1 (seS (gmB g.2.1) (gmC g.2.1) (gmW g.2.1) (gmF g.2.1) (nBx g.2.1) (gs g.2)).2.1 = _ from B4r hi.r hs.1 hg.ms (by omega)]
   show (Ax2 f (Azh f (gb (gmU g.2.1 (scV (seG (gmB g.2.1) (gmW g.2.1) (gmF g.2.1) (nBx g.2.1) (gs g.2)).1 (seS (gmB g.2.1) (gmC g.2.1) (gmW g.2.1) (gmF g.2.1) (nBx g.2.1) (gs g.2)).1 (gmM g.2.1)) (gmO g.2.1)) (gk g.2)) (seG (gmB g.2.1) (gmW g.2.1) (gmF g.2.1) (nBx g.2.1) (gs g.2)).1 (seS (gmB g.2.1) (gmC g.2.1) (gmW g.2.1) (gmF g.2.1) (nBx g.2.1) (gs g.2)).2.1)).run = _
   have hs64 := hs.2.1
   rw [show Azh f (gb (gmU g.2.1 (scV (seG (gmB g.2.1) (gmW g.2.1) (gmF g.2.1) (nBx g.2.1) (gs g.2)).1 (seS (gmB g.2.1) (gmC g.2.1) (gmW g.2.1) (gmF g.2.1) (nBx g.2.1) (gs g.2)).1 (gmM g.2.1)) (gmO g.2.1)) (gk g.2)) (seG (gmB g.2.1) (gmW g.2.1) (gmF g.2.1) (nBx g.2.1) (gs g.2)).1 (seS (gmB g.2.1) (gmC g.2.1) (gmW g.2.1) (gmF g.2.1) (nBx g.2.1) (gs g.2)).2.1 = _ from B4s (x := gb (gmU g.2.1 (scV (seG (gmB g.2.1) (gmW g.2.1) (gmF g.2.1) (nBx g.2.1) (gs g.2)).1 (seS (gmB g.2.1) (gmC g.2.1) (gmW g.2.1) (gmF g.2.1) (nBx g.2.1) (gs g.2)).1 (gmM g.2.1)) (gmO g.2.1)) (gk g.2)) hs.2.2 hk (by omega)]
   rfl
theorem Ase : Bb Tryz.prog 58 (sp_se 67) := Rf (Acm Fd Fe Azb Azc Azd) 6 N4 _ _ _ _ (fun g => T_se 67 g.2) (fun g => by kernel_rfl) fun _ _ _ h => Al6 h
theorem Asf : Bb Tryz.prog 58 (sp_se 53) := Rf (Acm Tp Tq Aze Azf Azg) 6 N4 _ _ _ _ (fun g => T_se 53 g.2) (fun g => by kernel_rfl) fun _ _ _ h => Al6 h
noncomputable def A4y : Code := (A8 (bodyOf Tryz.f124)).getD 0 .skip
noncomputable def Zk : Code := (A8 (bodyOf Tryz.f124)).getD 1 .skip
abbrev kBb : List SK := [.d cI, .d cI]
def A9f (f : Nat) : Lay := { keys := [0, 2, 3, 13, 14, 15, 24, 25, 26], ks := [.p 0 0 0 0, .d cI, .p 2002 0 0 0, .d (.sl A3), .d cI, .d cI, .d (.sl Al), .d cI, .d cI], bs := [(0, 99, kGm f), (1, 43, [.o 57 cKn]), (2002, 117, kBb)], n := 81, nx := 3000, marks := [] }
def B4x (f : Nat) : Lay := { keys := [0, 13, 14, 15], ks := [.p 0 0 0 0, .d (.sl A3), .d cI, .d cI], bs := bsG f, n := 81, nx := 3000, marks := [] }
def B4y : Lay := { keys := [], ks := [], bs := [], n := 81, nx := 4000, marks := [] }
def A4z (f : Nat) : XE → Lay := fun e => match e with | .panic _ => B4y | _ => B4x f
def A9g (f : Nat) : Lay := { keys := [0, 13, 14, 15], ks := [.p 0 0 0 0, .d (.sl A3), .d cI, .d cI], bs := bsG f, n := 81, nx := 2000, marks := [] }
def B94 (f : Nat) : Lay := { keys := [], ks := [], bs := bsG f, n := 81, nx := 2000, marks := [] }
def A9h (f : Nat) : XE → Lay := fun e => match e with | .panic _ => B4y | _ => B94 f
theorem Asg {f : Nat} (e : XE) : (A9f f).nx ≤ (A4z f e).nx := by cases e <;> first | exact Nat.le_refl _ | exact (by decide : (3000 : Nat) ≤ 4000)
theorem Ash {f : Nat} (e : XE) : (A9g f).nx ≤ (A9h f e).nx := by cases e <;> first | exact Nat.le_refl _ | exact (by decide : (2000 : Nat) ≤ 4000)
abbrev Dss : Type := List (TCT Al)
abbrev MK : Type := Ae × Kns
def Gi (ps : Dss) (i : Nat) : TCT Al := Aq ps i (Ao Al)
def bmV (b : TCT A3) (m : TCT Ai) (d : TCT Al) (c : TCT Dz) : TCTs [Ai, cI] := A6r (bm b m) d.1.1 d.1.2.1 d.2.1 c.1 c.2.1
structure Cb where
 i : Int
 b : TCT A3
 bl : List (TCT A3)
 n1 : Int
 i1 : Int
 ps : Dss
def gmb (m : GM) (k : Kns) (b : TCT A3) : GM × SKTs [.o 0 cKn] × SKTs kBb × Unit := (m, (k, ()), b, ())
def A50 (f : Nat) (x : GB) (c : Cb) (n k : Int) (s : MK) : (A9f f).T := (((), c.i, (), c.bl, c.n1, c.i1, c.ps, n, k, ()), gmb (gmU x.1 s.1 (gmO x.1)) s.2 c.b)
def V9 (f : Nat) (x : GB) (c : Cb) (s : MK) : A1 (A4z f) := ⟨.exit 2, (((), c.bl, c.n1, c.i1, ()), gb (gmU x.1 s.1 (gmO x.1)) s.2)⟩
def A51 (f : Nat) (e : Int) : A1 (A4z f) := ⟨.panic (.ifc 44 (.int .i64 e)), ((), ())⟩
abbrev TB2 (f : Nat) := Tree ((A9f f).T ⊕ A1 (A4z f))
def A9i (f : Nat) (x : GB) (c : Cb) (n k : Int) (s : MK) (r : TCTs [Ai, cI]) : TB2 f :=
 bif r.2.1 == 0 then inO s.1.length c.i (Af6 s.2 (kn (gmT x.1) (gmS x.1) 1 c.i k) fun ks => .leaf (.inl (A50 f x c n (W64 (k + 1)) (B1 s.1 (Int.toNat c.i) r.1, ks))))
 else bif r.2.1 == 4 then .leaf (.inr (A51 f r.2.1)) else .leaf (.inl (A50 f x c n (W64 (k + 1)) s))
def Va (f : Nat) (x : GB) (c : Cb) (n k : Int) (s : MK) : TB2 f := bif decide (k < n) then inN c.ps.length k (bif Ya s.1 (gmO x.1) c.i then
 bif !C2 s.1 (gmO x.1) (Int.toNat c.i) then .leaf (.inr (V9 f x c s)) else bif Eg (gmW x.1) (gmF x.1) c.i then .leaf (.inr (V9 f x c s)) else
 inO s.1.length c.i (A9i f x c n k s (bmV c.b (Ag s.1 (Int.toNat c.i)) (Gi c.ps (Int.toNat k)) (gmC x.1))) else .fail) else .leaf (.inr (V9 f x c s))
def cb (f : Nat) (g : (A9f f).T) : Cb := ⟨g.1.2.1, g.2.2.2.1, g.1.2.2.2.1, g.1.2.2.2.2.1, g.1.2.2.2.2.2.1, g.1.2.2.2.2.2.2.1⟩
def Al7 (f : Nat) (g : (A9f f).T) : TB2 f := Va f (gb g.2.1 g.2.2.1.1) (cb f g) g.1.2.2.2.2.2.2.2.1 g.1.2.2.2.2.2.2.2.2.1 (gmM g.2.1, g.2.2.1.1)
def fu_b2 (f : Nat) (g : (A9f f).T) : Nat := Int.toNat g.1.2.2.2.2.2.2.2.1 + 1
def sm_b2 (f : Nat) : St → Tree (XE × St) := Ac (A9f f) (A4z f) (finP 44 .i64 [.exit 2] (Al7 f) (fu_b2 f))
def bpE (b : TCT A3) (c : TCT Dz) (ps : Dss) (os : List Bool) (w fl t st : Int) (i : Nat) (k : Nat) (s : MK) : MK ⊕ (MK ⊕ Int) :=
 bif !C2 s.1 os i || Eg w fl i then .inr (.inl s) else
 bif (bmV b (Ag s.1 i) (Gi ps k) c).2.1 == 0 then .inl (B1 s.1 i (bmV b (Ag s.1 i) (Gi ps k) c).1, s.2 ++ [kn t st 1 i k]) else
 bif (bmV b (Ag s.1 i) (Gi ps k) c).2.1 == 4 then .inr (.inr (bmV b (Ag s.1 i) (Gi ps k) c).2.1) else .inl s
def Afc : MK ⊕ (MK ⊕ Int) → MK ⊕ Int
 | .inl s => .inl s
 | .inr x => x
def A1f (f : Nat) (x : GB) (c : Cb) (r : MK ⊕ (MK ⊕ Int)) : A1 (A4z f) := match Afc r with
 | .inl s => V9 f x c s
 | .inr e => A51 f e
structure InvK (n k : Nat) (i : Nat) (s : MK) : Prop where
 m : s.1.length = n
 k : s.2.length ≤ k + i
theorem Al8 {b : TCT A3} {c : TCT Dz} {ps : Dss} {os : List Bool} {w fl t st : Int} {i n k0 m : Nat} (k : Nat) (s s' : MK) (_ : k < m) (hi : InvK n k0 k s) (h : bpE b c ps os w fl t st i k s = .inl s') : InvK n k0 (k + 1) s' := by
 unfold bpE at h
 have hk := hi.k
 cases h1 : !C2 s.1 os i || Eg w fl i with
 | true => rw [h1] at h; cases h
 | false =>
  rw [h1] at h
  cases h2 : (bmV b (Ag s.1 i) (Gi ps k) c).2.1 == 0 with
  | true => rw [h2] at h; cases h; exact ⟨by rw [Be]; exact hi.m, by simp; omega⟩
  | false =>
   rw [h2] at h
   cases h3 : (bmV b (Ag s.1 i) (Gi ps k) c).2.1 == 4 with
   | true => rw [h3] at h; cases h
   | false => rw [h3] at h; cases h; exact ⟨hi.m, by omega⟩
theorem B4z {f : Nat} {x : GB} {c : Cb} {i n k0 : Nat} {s : MK} (hci : c.i = (i : Int)) (hi : i < n) (hos : (gmO x.1).length = n) (hs : InvK n k0 0 s) (hk0 : k0 ≤ 990000) (hps : c.ps.length ≤ 1000) :
  iter (Al7 f) (c.ps.length + 1) (A50 f x c c.ps.length 0 s) = some (A1f f x c (Ar (bpE c.b (gmC x.1) c.ps (gmO x.1) (gmW x.1) (gmF x.1) (gmT x.1) (gmS x.1) i) 0 c.ps.length s)) := by
 have hn : (c.ps.length : Int) ≤ As .i64 := by show (c.ps.length : Int) ≤ 9223372036854775807; omega
 refine G8 c.ps.length (fun k s => A50 f x c c.ps.length k s) (bpE c.b (gmC x.1) c.ps (gmO x.1) (gmW x.1) (gmF x.1) (gmT x.1) (gmS x.1) i) (A1f f x c) (InvK n k0) (fun k s hk hl => ?_) Al8 (fun s hl => ?_) c.ps.length 0 s (by omega) hs
 ·show (Va f (gb (gmU x.1 s.1 (gmO x.1)) s.2) c c.ps.length k s).run = _
  have h1 := hl.m
  have h2 := hl.k
  unfold Va
  show Tree.run (bif decide ((k : Int) < (c.ps.length : Int)) then inN c.ps.length k (bif Ya s.1 (gmO x.1) c.i then
   bif !C2 s.1 (gmO x.1) (Int.toNat c.i) then .leaf (.inr (V9 f x c s)) else bif Eg (gmW x.1) (gmF x.1) c.i then .leaf (.inr (V9 f x c s)) else
   inO s.1.length c.i (A9i f x c c.ps.length k s (bmV c.b (Ag s.1 (Int.toNat c.i)) (Gi c.ps k) (gmC x.1))) else .fail) else .leaf (.inr (V9 f x c s)) : TB2 f) = _
  rw [hci, decide_eq_true (show (k : Int) < (c.ps.length : Int) by omega), Ef (by omega), A1c hi h1 hos, E3 (by omega), show Int.toNat (i : Int) = i from rfl]
  unfold A9i bpE Af6
  rw [hci, E3 (by omega), Lw (by simp; omega) (by decide), Cj hk hn, show Int.toNat (i : Int) = i from rfl]
  cases C2 s.1 (gmO x.1) i with
  | false => rfl
  | true =>
   cases Eg (gmW x.1) (gmF x.1) i with
   | true => rfl
   | false =>
    simp only [Bool.not_true, Bool.or_self, cond_true, cond_false]
    cases (bmV c.b (Ag s.1 i) (Gi c.ps k) (gmC x.1)).2.1 == 0 with
    | true => rfl
    | false =>
     simp only [cond_false]
     cases (bmV c.b (Ag s.1 i) (Gi c.ps k) (gmC x.1)).2.1 == 4 <;> rfl
 ·show (Va f (gb (gmU x.1 s.1 (gmO x.1)) s.2) c c.ps.length c.ps.length s).run = _
  unfold Va
  rw [decide_eq_false (show ¬ (c.ps.length : Int) < (c.ps.length : Int) by omega)]
  rfl
def Al9 (f : Nat) (x : GB) (bl : List (TCT A3)) (n i : Int) (s : MK) : (A9g f).T := (((), bl, n, i, ()), gb (gmU x.1 s.1 (gmO x.1)) s.2)
def Ax3 (f : Nat) (x : GB) (s : MK) : A1 (A9h f) := ⟨.exit 0, ((), gb (gmU x.1 s.1 (gmO x.1)) s.2)⟩
def Ax4 (f : Nat) (e : Int) : A1 (A9h f) := ⟨.panic (.ifc 44 (.int .i64 e)), ((), ())⟩
abbrev TB1 (f : Nat) := Tree ((A9g f).T ⊕ A1 (A9h f))
def B50 (f : Nat) (r : (B4x f).T) : (A9g f).T := (((), r.1.2.1, r.1.2.2.1, W64 (r.1.2.2.2.1 + 1), ()), r.2)
def Ala (f : Nat) (y : Option (A1 (A4z f))) : TB1 f := bif isP 44 .i64 y then .leaf (.inr (Ax4 f (panO 44 .i64 y).1)) else bif isE (.exit 2) y then .leaf (.inl (B50 f (C0 (.exit 2) y))) else .fail
def B51 (f : Nat) (x : GB) (c : Cb) : Option (A1 (A4z f)) := iter (Al7 f) (c.ps.length + 1) (A50 f x c c.ps.length 0 (gmM x.1, gk x))
def cb1 (x : GB) (bl : List (TCT A3)) (n i : Int) : Cb := ⟨i, Ec bl (Int.toNat i), bl, n, i, gmP x.1⟩
def Vb (f : Nat) (x : GB) (bl : List (TCT A3)) (n i : Int) : TB1 f := bif decide (i < n) then inN bl.length i (Ala f (B51 f x (cb1 x bl n i))) else .leaf (.inr (Ax3 f x (gmM x.1, gk x)))
def Alb (f : Nat) (g : (A9g f).T) : TB1 f := Vb f g.2 g.1.2.1 g.1.2.2.1 g.1.2.2.2.1
def fu_b1 (f : Nat) (g : (A9g f).T) : Nat := Int.toNat g.1.2.2.1 + 1
def sm_b1 (f : Nat) : St → Tree (XE × St) := Ac (A9g f) (A9h f) (finP 44 .i64 [.exit 0] (Alb f) (fu_b1 f))
def Lt_b1 (f : Nat) : Jh := fun k => bif Nat.beq k 4 then some (sm_b2 f) else none
theorem Alc : A8 A4y = [Zk] := by kernel_rfl
theorem Azi : keyOf Zk = 4 := by kernel_rfl
theorem Ald {f : Nat} (h : Aj Tryz.prog 124 Zk (sm_b2 f)) : ∀ d ∈ A8 A4y, ∀ g, Lt_b1 f (keyOf d) = some g → Aj Tryz.prog 124 d g := fun d hd g hg => by
 rw [Alc, List.mem_singleton] at hd
 subst hd
 rw [Azi] at hg
 cases hg
 exact h
theorem Ale : Aj Tryz.prog 124 Zk (sm_b2 67) := Nx (H7 is_be Fd Fe) 7 _ _ _ Asg _ _ _ _ (fu_b2 67) (fun g => by kernel_rfl)
theorem Azj : Aj Tryz.prog 124 A4y (sm_b1 67) := A85 (H7 is_be Fd Fe) 7 _ (Lt_b1 67) (Ald Ale) _ _ Ash _ _ _ _ (fu_b1 67) (fun g => by kernel_rfl)
def boE (bl : List (TCT A3)) (c : TCT Dz) (ps : Dss) (os : List Bool) (w fl t st : Int) (i : Nat) (s : MK) : MK ⊕ Int := Afc (Ar (bpE (Ec bl i) c ps os w fl t st i) 0 ps.length s)
def Vc (f : Nat) (x : GB) : MK ⊕ Int → A1 (A9h f)
 | .inl s => Ax3 f x s
 | .inr e => Ax4 f e
theorem Alf {b : TCT A3} {c : TCT Dz} {ps : Dss} {os : List Bool} {w fl t st : Int} {i n k0 m : Nat} : ∀ (j k : Nat) (s s' : MK), k + j = m → InvK n k0 k s → Afc (Ar (bpE b c ps os w fl t st i) k j s) = .inl s' → InvK n k0 m s'
 | 0, k, s, s', hj, hi, h => by
  have e : k = m := by omega
  subst e
  cases h
  exact hi
 | j + 1, k, s, s', hj, hi, h => by
  unfold Ar at h
  cases hf : bpE b c ps os w fl t st i k s with
  | inl t1 => rw [hf] at h; exact Alf j (k + 1) t1 s' (by omega) (Al8 (m := m) k s t1 (by omega) hi hf) h
  | inr y =>
   rw [hf] at h
   unfold bpE at hf
   have hk := hi.k
   cases h1 : !C2 s.1 os i || Eg w fl i with
   | true =>
    rw [h1] at hf
    cases hf
    cases h
    exact ⟨hi.m, by omega⟩
   | false =>
    rw [h1] at hf
    cases h2 : (bmV b (Ag s.1 i) (Gi ps k) c).2.1 == 0 with
    | true => rw [h2] at hf; cases hf
    | false =>
     rw [h2] at hf
     cases h3 : (bmV b (Ag s.1 i) (Gi ps k) c).2.1 == 4 with
     | true => rw [h3] at hf; cases hf; cases h
     | false => rw [h3] at hf; cases hf
structure InvO (n k P : Nat) (i : Nat) (s : MK) : Prop where
 m : s.1.length = n
 k : s.2.length ≤ k + i * P
theorem Alg {bl : List (TCT A3)} {c : TCT Dz} {ps : Dss} {os : List Bool} {w fl t st : Int} {n k0 m : Nat} (i : Nat) (s s' : MK) (_ : i < m) (hi : InvO n k0 ps.length i s) (h : boE bl c ps os w fl t st i s = .inl s') : InvO n k0 ps.length (i + 1) s' := by
 have a := Alf (n := n) (k0 := k0 + i * ps.length) (m := ps.length) ps.length 0 s s' (by omega) ⟨hi.m, by have := hi.k; omega⟩ h
 have e : (i + 1) * ps.length = i * ps.length + ps.length := Nat.succ_mul i ps.length
 exact ⟨a.m, by have := a.k; omega⟩
theorem B52 {f : Nat} {x : GB} {s : MK} (hx : OkGM x.1) (hm : s.1.length = nBx x.1) (hk : s.2.length ≤ 900000) (hps : (gmP x.1).length ≤ 1000) :
  iter (Alb f) (nBx x.1 + 1) (Al9 f x (gmB x.1) (nBx x.1) 0 s) = some (Vc f x (Ar (boE (gmB x.1) (gmC x.1) (gmP x.1) (gmO x.1) (gmW x.1) (gmF x.1) (gmT x.1) (gmS x.1)) 0 (nBx x.1) s)) := by
 have hn8 := hx.n
 have hn : (nBx x.1 : Int) ≤ As .i64 := by show (nBx x.1 : Int) ≤ 9223372036854775807; omega
 refine G8 (nBx x.1) (fun i s => Al9 f x (gmB x.1) (nBx x.1) i s) (boE (gmB x.1) (gmC x.1) (gmP x.1) (gmO x.1) (gmW x.1) (gmF x.1) (gmT x.1) (gmS x.1)) (Vc f x) (InvO (nBx x.1) s.2.length (gmP x.1).length) (fun i s1 hi hl => ?_) Alg (fun s hl => ?_) (nBx x.1) 0 s (by omega) ⟨hm, by omega⟩
 ·show (Vb f (gb (gmU x.1 s1.1 (gmO x.1)) s1.2) (gmB x.1) (nBx x.1) i).run = _
  have h2 := hl.k
  have h3 : i * (gmP x.1).length ≤ 8 * 1000 := Nat.mul_le_mul (by omega) hps
  have hy : B51 f (gb (gmU x.1 s1.1 (gmO x.1)) s1.2) (cb1 (gb (gmU x.1 s1.1 (gmO x.1)) s1.2) (gmB x.1) (nBx x.1) i) = some (A1f f (gb (gmU x.1 s1.1 (gmO x.1)) s1.2) (cb1 (gb (gmU x.1 s1.1 (gmO x.1)) s1.2) (gmB x.1) (nBx x.1) i) (Ar (bpE (Ec (gmB x.1) i) (gmC x.1) (gmP x.1) (gmO x.1) (gmW x.1) (gmF x.1) (gmT x.1) (gmS x.1) i) 0 (gmP x.1).length s1)) :=
   B4z (f := f) (x := gb (gmU x.1 s1.1 (gmO x.1)) s1.2) (c := cb1 (gb (gmU x.1 s1.1 (gmO x.1)) s1.2) (gmB x.1) (nBx x.1) i) (i := i) (n := nBx x.1) (k0 := s.2.length + i * (gmP x.1).length) (s := s1) rfl hi hx.os ⟨hl.m, by omega⟩ (by omega) hps
  unfold Vb
  rw [decide_eq_true (show (i : Int) < (nBx x.1 : Int) by omega), Ef (n := (gmB x.1).length) (by show 0 ≤ (i : Int) ∧ (i : Int) < (nBx x.1 : Int); omega), hy]
  unfold boE A1f
  cases Afc (Ar (bpE (Ec (gmB x.1) i) (gmC x.1) (gmP x.1) (gmO x.1) (gmW x.1) (gmF x.1) (gmT x.1) (gmS x.1) i) 0 (gmP x.1).length s1) with
  | inl s2 =>
   show (Tree.leaf (.inl (((), gmB x.1, (nBx x.1 : Int), W64 ((i : Int) + 1), ()), gb (gmU x.1 s2.1 (gmO x.1)) s2.2)) : TB1 f).run = _
   rw [Cj hi hn]
   rfl
  | inr e =>
   have h1 : isP 44 .i64 (some (A51 f e)) = true := N0
   have h2 : panO 44 .i64 (some (A51 f e)) = ⟨e, ((), ())⟩ := Ih
   show (Ala f (some (A51 f e))).run = _
   unfold Ala
   rw [h1, h2]
   rfl
 ·show (Vb f (gb (gmU x.1 s.1 (gmO x.1)) s.2) (gmB x.1) (nBx x.1) (nBx x.1)).run = _
  unfold Vb
  rw [decide_eq_false (show ¬ (nBx x.1 : Int) < (nBx x.1 : Int) by omega)]
  rfl
noncomputable def B95 (f : Nat) : Ctx := S7 Tryz.prog Tf [(124, Tryz.f124)] [((124, 1), sm_b1 f), ((124, 4), sm_b2 f)] (spG f)
theorem Asi {f : Nat} (h1 : Bb Tryz.prog 159 (sp_ro f)) (h2 : Bb Tryz.prog 113 (sp_fl f)) (l1 : Aj Tryz.prog 124 A4y (sm_b1 f)) (l2 : Aj Tryz.prog 124 Zk (sm_b2 f)) : CtxOk (B95 f) :=
 Fj Ab Uy (fns_cons is_bc A2) (E4 (Lx (ds := [A4y, Zk]) (by kernel_rfl) ⟨I0 (k := 1) (by kernel_rfl) rfl l1, I0 (k := 4) (by kernel_rfl) rfl l2, trivial⟩) Ia) (K1 is_a5.plain h1 is_a6.plain h2)
def Alh (f : Nat) (x : GB) : Option (A1 (A9h f)) := iter (Alb f) (nBx x.1 + 1) (Al9 f x (gmB x.1) (nBx x.1) 0 (gmM x.1, gk x))
def T_bp (f : Nat) (x : GB) : TU f := bif isP 44 .i64 (Alh f x) then .leaf ⟨false, pnU f (panO 44 .i64 (Alh f x)).1⟩ else bif isE (.exit 0) (Alh f x) then .leaf ⟨true, ((), (C0 (.exit 0) (Alh f x)).2)⟩ else .fail
def buF (bl : List (TCT A3)) (c : TCT Dz) (ps : Dss) (t st w fl : Int) (n : Nat) (s : S2) : MK ⊕ Int := Ar (boE bl c ps s.2.1 w fl t st) 0 n (s.1, s.2.2)
def A52 (x : GB) : Bool := Oo x && decide ((gmP x.1).length ≤ 1000)
theorem A53 {x : GB} (h : A52 x = true) : OkGM x.1 ∧ (gk x).length ≤ 900000 ∧ (gmP x.1).length ≤ 1000 := by
 unfold A52 at h
 simp only [Bool.and_eq_true, decide_eq_true_eq] at h
 have a := V6 h.1
 exact ⟨a.1, a.2, h.2⟩
def A54 (x : GB) : Option (MK ⊕ Int) := bif A52 x then some (buF (gmB x.1) (gmC x.1) (gmP x.1) (gmT x.1) (gmS x.1) (gmW x.1) (gmF x.1) (nBx x.1) (gs x)) else none
abbrev sp_bp (f : Nat) : Aa → Nat → List AV → Tree (Out × Aa × Nat) := Hy Js (FL_g f) (FE_u f) (Uz (fun g : (FL_g f).T => A54 g.2) (fun g => A4x f g.2) (pnU f) ([], []))
theorem Azk {f : Nat} {g : (FL_g f).T} {z : MK ⊕ Int} (h : A54 g.2 = some z) : (T_bp f g.2).run = some (Yb (L := FL_g f) (E := FE_u f) (fun g => A4x f g.2) (pnU f) g z) := by
 unfold A54 at h
 cases ho : A52 g.2 with
 | false => rw [ho] at h; cases h
 | true =>
  rw [ho] at h
  cases h
  obtain ⟨hg, hk, hp⟩ := A53 ho
  have hy : Alh f g.2 = some (Vc f g.2 (buF (gmB g.2.1) (gmC g.2.1) (gmP g.2.1) (gmT g.2.1) (gmS g.2.1) (gmW g.2.1) (gmF g.2.1) (nBx g.2.1) (gs g.2))) := B52 hg hg.ms hk hp
  unfold T_bp
  rw [hy]
  cases buF (gmB g.2.1) (gmC g.2.1) (gmP g.2.1) (gmT g.2.1) (gmS g.2.1) (gmW g.2.1) (gmF g.2.1) (nBx g.2.1) (gs g.2) with
  | inl s => rfl
  | inr e =>
   have h1 : isP 44 .i64 (some (Vc f g.2 (.inr e))) = true := N0
   have h2 : panO 44 .i64 (some (Vc f g.2 (.inr e))) = ⟨e, ((), ())⟩ := Ih
   rw [h1, h2]
   rfl
theorem Asj : Bb Tryz.prog 124 (sp_bp 67) := Rf (Asi Fd Fe Azj Ale) 6 N4 _ _ _ _ (fun g => T_bp 67 g.2) (fun g => by kernel_rfl) fun _ _ _ h => Azk h
end St
def thY {A β : Type} (y : Option (A ⊕ Int)) (d : A) (pn : Int → Tree β) (k : A → Tree β) : Tree β := bif isL y then k (gL d y) else bif isR y then pn (gR 0 y) else .fail
theorem Zl {A β : Type} {y : Option (A ⊕ Int)} {d a : A} {pn : Int → Tree β} {k : A → Tree β} (h : y = some (.inl a)) : thY y d pn k = k a := by rw [h]; rfl
theorem Zm {A β : Type} {y : Option (A ⊕ Int)} {d : A} {e : Int} {pn : Int → Tree β} {k : A → Tree β} (h : y = some (.inr e)) : thY y d pn k = pn e := by rw [h]; rfl
namespace St
noncomputable def Ali : Code := (A8 (bodyOf Tryz.f68)).getD 0 .skip
def A9j (f : Nat) : Lay := { keys := [0], ks := [.p 0 0 0 0], bs := bsG f, n := 52, nx := 4000, marks := [] }
def B96 : Lay := { keys := [], ks := [], bs := [], n := 52, nx := 9000, marks := [] }
def A55 (f : Nat) : XE → Lay := fun e => match e with | .panic _ => B96 | _ => A9j f
theorem Ask {f : Nat} (e : XE) : (A9j f).nx ≤ (A55 f e).nx := by cases e <;> first | exact Nat.le_refl _ | exact (by decide : (4000 : Nat) ≤ 9000)
abbrev YS : Type := GB → Option (Ae ⊕ Int)
abbrev Y2 : Type := GB → Option (S2 ⊕ Int)
abbrev YK : Type := GB → Option (MK ⊕ Int)
abbrev SPf : Type := Aa → Nat → List AV → Tree (Out × Aa × Nat)
def B97 {β : Type} (m : GM) (ms : Ae) (os : List Bool) (k : GM → β) : β := match m with
 | (a0, a1, a2, a3, a4, a5, a6, a7, a8, a9, a10, a11, a12, a13, a14, _, _, a17, a18, a19, a20, a21, _) => k (a0, a1, a2, a3, a4, a5, a6, a7, a8, a9, a10, a11, a12, a13, a14, ms, os, a17, a18, a19, a20, a21, ())
def B53 {β : Type} (m : GM) (ms : Ae) (k : GM → β) : β := match m with
 | (a0, a1, a2, a3, a4, a5, a6, a7, a8, a9, a10, a11, a12, a13, a14, _, a16, a17, a18, a19, a20, a21, _) => k (a0, a1, a2, a3, a4, a5, a6, a7, a8, a9, a10, a11, a12, a13, a14, ms, a16, a17, a18, a19, a20, a21, ())
def gmA (m : GM) (ms : Ae) (os : List Bool) (fl tk st : Int) : GM := (m.1, m.2.1, m.2.2.1, m.2.2.2.1, m.2.2.2.2.1, m.2.2.2.2.2.1, m.2.2.2.2.2.2.1, m.2.2.2.2.2.2.2.1, m.2.2.2.2.2.2.2.2.1, m.2.2.2.2.2.2.2.2.2.1, m.2.2.2.2.2.2.2.2.2.2.1, m.2.2.2.2.2.2.2.2.2.2.2.1, m.2.2.2.2.2.2.2.2.2.2.2.2.1, m.2.2.2.2.2.2.2.2.2.2.2.2.2.1, m.2.2.2.2.2.2.2.2.2.2.2.2.2.2.1, ms, os, m.2.2.2.2.2.2.2.2.2.2.2.2.2.2.2.2.2.1, fl, tk, st, m.2.2.2.2.2.2.2.2.2.2.2.2.2.2.2.2.2.2.2.2.2.1, ())
def Sm {L : FLay} {E : Bool → FLay} {A : Type} (Y : L.T → Option (A ⊕ Int)) (mk : L.T → A → ((E true).T → Tree (Bx E)) → Tree (Bx E)) (pn : Int → (E false).T) (d : A) (g : L.T) : Tree (Bx E) :=
 .br (isL (Y g)) (mk g (gL d (Y g)) fun y => .leaf ⟨true, y⟩) (.br (isR (Y g)) (.leaf ⟨false, pn (gR 0 (Y g))⟩) .fail)
def B54 (f : Nat) (x : GB) (s : S2) (k : (FE_u f true).T → Tree (Bx (FE_u f))) : Tree (Bx (FE_u f)) := B97 x.1 s.1 s.2.1 fun m => k ((), (m, (s.2.2, ()), ()))
def B55 (f : Nat) (x : GB) (s : MK) (k : (FE_u f true).T → Tree (Bx (FE_u f))) : Tree (Bx (FE_u f)) := B53 x.1 s.1 fun m => k ((), (m, (s.2, ()), ()))
def B56 (f : Nat) (x : GB) (s : Ae) (k : (FE_u f true).T → Tree (Bx (FE_u f))) : Tree (Bx (FE_u f)) := B53 x.1 s fun m => k ((), (m, (x.2.1.1, ()), ()))
theorem Asl {f : Nat} (Y : Y2) : (Sm (L := FL_g f) (E := FE_u f) (fun g => Y g.2) (fun g => B54 f g.2) (pnU f) ([], [], [])) = (Uz (L := FL_g f) (E := FE_u f) (fun g => Y g.2) (fun g => Akv f g.2) (pnU f) ([], [], [])) := rfl
theorem A1g {f : Nat} (Y : YK) : (Sm (L := FL_g f) (E := FE_u f) (fun g => Y g.2) (fun g => B55 f g.2) (pnU f) ([], [])) = (Uz (L := FL_g f) (E := FE_u f) (fun g => Y g.2) (fun g => A4x f g.2) (pnU f) ([], [])) := rfl
theorem Asm {f : Nat} (Y : YS) : (Sm (L := FL_g f) (E := FE_u f) (fun g => Y g.2) (fun g => B56 f g.2) (pnU f) []) = (Uz (L := FL_g f) (E := FE_u f) (fun g => Y g.2) (fun g => A94 f g.2) (pnU f) []) := rfl
abbrev B57 (f : Nat) (Y : YS) : SPf := Hy Js (FL_g f) (FE_u f) (Sm (fun g : (FL_g f).T => Y g.2) (fun g => B56 f g.2) (pnU f) [])
abbrev B58 (f : Nat) (Y : Y2) : SPf := Hy Js (FL_g f) (FE_u f) (Sm (fun g : (FL_g f).T => Y g.2) (fun g => B54 f g.2) (pnU f) ([], [], []))
abbrev Afd (f : Nat) (Y : YK) : SPf := Hy Js (FL_g f) (FE_u f) (Sm (fun g : (FL_g f).T => Y g.2) (fun g => B55 f g.2) (pnU f) ([], []))
structure TY where
 s : YS
 m : Y2
 e : YK
 b : YK
def spT (f : Nat) (Y : TY) : List (Nat × SPf) := [(122, B57 f Y.s), (123, B58 f Y.m), (58, Afd f Y.e), (124, Afd f Y.b)]
def tyG : TY := ⟨V4, A4v, Oq, A54⟩
theorem Azl {f : Nat} (h1 : Bb Tryz.prog 122 (sp_slw f)) (h2 : Bb Tryz.prog 123 (sp_mv f)) (h3 : Bb Tryz.prog 58 (sp_se f)) (h4 : Bb Tryz.prog 124 (sp_bp f)) : ∀ p ∈ spT f tyG, Plain Tryz.prog p.1 ∧ Bb Tryz.prog p.1 p.2 := fun p hp => by
 unfold spT at hp
 simp only [List.mem_cons, List.not_mem_nil, or_false] at hp
 rcases hp with rfl | rfl | rfl | rfl
 ·exact ⟨is_a9.plain, by rw [tyG, B57, Asm]; exact h1⟩
 ·exact ⟨is_ba.plain, by rw [tyG, B58, Asl]; exact h2⟩
 ·exact ⟨is_bb.plain, by rw [tyG, Afd, A1g]; exact h3⟩
 ·exact ⟨is_bc.plain, by rw [tyG, Afd, A1g]; exact h4⟩
theorem Ax5 : ∀ p ∈ spT 67 tyG, Plain Tryz.prog p.1 ∧ Bb Tryz.prog p.1 p.2 := Azl Akl As8 Ase Asj
noncomputable def B98 (f : Nat) (Y : TY) : Ctx := S7 Tryz.prog Tf [(57, Tryz.f57)] [] (spT f Y)
theorem Asn {f : Nat} {Y : TY} (h : ∀ p ∈ spT f Y, Plain Tryz.prog p.1 ∧ Bb Tryz.prog p.1 p.2) : CtxOk (B98 f Y) := Fj Ab Uy (fns_cons is_a8 A2) K2 h
def x2 (x : GB) (s : S2) : GB := gb (gmU x.1 s.1 s.2.1) s.2.2
abbrev TTk (f : Nat) := Tree ((A9j f).T ⊕ A1 (A55 f))
def Ax6 (f : Nat) (e : Int) : A1 (A55 f) := ⟨.panic (.ifc 44 (.int .i64 e)), ((), ())⟩
def Zn (f : Nat) (e : Int) : TTk f := .leaf (.inr (Ax6 f e))
def z2 : S2 := ([], [], [])
def zM : MK := ([], [])
def xS (x : GB) (i : Int) (s : S2) : GB := (gmA x.1 s.1 s.2.1 (gmF x.1) (gmT x.1) i, (s.2.2, ()), ())
def Vd (f : Nat) (Y : TY) (x : GB) (i : Int) (s : S2) : TTk f := bif decide (i ≤ 16) then thY (Y.m (xS x i s)) z2 (Zn f) fun s1 => thY (Y.e (xS x i s1)) zM (Zn f) fun s2 => thY (Y.b (xS x i (s2.1, s1.2.1, s2.2))) zM (Zn f) fun s3 => .leaf (.inl (((), ()), xS x (W64 (i + 1)) (s3.1, s1.2.1, s3.2)))
 else .leaf (.inr ⟨.exit 0, (((), ()), xS x i s)⟩)
def Acn (f : Nat) (Y : TY) (g : (A9j f).T) : TTk f := Vd f Y g.2 (gmS g.2.1) (gs g.2)
def fu_tk (f : Nat) (_ : (A9j f).T) : Nat := 17
def sm_tk (f : Nat) (Y : TY) : St → Tree (XE × St) := Ac (A9j f) (A55 f) (finP 44 .i64 [.exit 0] (Acn f Y) (fu_tk f))
theorem Azm {Y : TY} (h : ∀ p ∈ spT 67 Y, Plain Tryz.prog p.1 ∧ Bb Tryz.prog p.1 p.2) : Aj Tryz.prog 68 Ali (sm_tk 67 Y) := Nx (Asn h) 7 _ _ _ Ask _ _ _ _ (fu_tk 67) (fun g => by kernel_rfl)
structure CT where
 bl : List (TCT A3)
 l : TCT An
 c : TCT Dz
 ps : Dss
 w : Int
 fl : Int
 t : Int
def tkE (k : CT) (i : Nat) (s : S2) : S2 ⊕ Int := match mvF k.bl k.l k.t ((i + 1 : Nat) : Int) k.bl.length s with
 | .inr e => .inr e
 | .inl s1 => match seF k.bl k.c k.t ((i + 1 : Nat) : Int) k.w k.fl k.bl.length s1 with
  | .inr e => .inr e
  | .inl s2 => match buF k.bl k.c k.ps k.t ((i + 1 : Nat) : Int) k.w k.fl k.bl.length (s2.1, s1.2.1, s2.2) with
   | .inr e => .inr e
   | .inl s3 => .inl (s3.1, s1.2.1, s3.2)
theorem A1h {bl : List (TCT A3)} {l : TCT An} {t st : Int} {n k : Nat} {s s' : S2} (hs : Inv2 n k 0 s) (h : mvF bl l t st n s = .inl s') : Inv2 n (k + n) 0 s' := by
 unfold mvF at h
 cases h1 : Ar (stE bl s.2.1) 0 n s.1 with
 | inr e => rw [h1] at h; cases h
 | inl ms =>
  rw [h1] at h
  change Ar (lvE l t st) 0 n (ms, s.2.1, s.2.2) = .inl s' at h
  have hm : ms.length = n := Ax (n := n) (Inv := fun _ (s : Ae) => s.length = n) A96 n 0 _ _ (by omega) hs.m h1
  have a := Ax (n := n) (Inv := Inv2 n k) Akt n 0 (ms, s.2.1, s.2.2) s' (by omega) ⟨hm, hs.o, hs.k⟩ h
  exact ⟨a.m, a.o, by have := a.k; omega⟩
theorem Aco {bl : List (TCT A3)} {c : TCT Dz} {t st w fl : Int} {n k : Nat} {s : S2} {s' : MK} (hn : n ≤ 8) (hs : Inv2 n k 0 s) (h : seF bl c t st w fl n s = .inl s') : Inv2 n (k + 64) 0 (s'.1, s.2.1, s'.2) := by
 unfold seF at h
 cases he : (seS bl c w fl n s).2.2.1 != 0 with
 | true => rw [he] at h; cases h
 | false =>
  rw [he] at h
  cases h
  have a := Al5 (bl := bl) (bc := c) (w := w) (fl := fl) (s := s) hn (bne_eq_false_iff_eq.1 he)
  have hk := hs.k
  refine ⟨?_, hs.o, ?_⟩
  ·show (scV _ _ _).length = n
   rw [Acj]; exact hs.m
  ·show (kpV _ _ _ _ _).length ≤ _
   rw [Asd]; have := a.2.1; omega
theorem Aso {bl : List (TCT A3)} {c : TCT Dz} {ps : Dss} {t st w fl : Int} {n k : Nat} {s : S2} {s' : MK} (hs : Inv2 n k 0 s) (h : buF bl c ps t st w fl n s = .inl s') : Inv2 n (k + n * ps.length) 0 (s'.1, s.2.1, s'.2) := by
 unfold buF at h
 have hk := hs.k
 have a := Ax (n := n) (Inv := InvO n s.2.2.length ps.length) Alg n 0 _ _ (by omega) ⟨hs.m, by show s.2.2.length ≤ s.2.2.length + 0 * ps.length; omega⟩ h
 exact ⟨a.m, hs.o, by have := a.k; show s'.2.length ≤ _; omega⟩
theorem Acp {k : CT} {k0 m : Nat} (hn : k.bl.length ≤ 8) (hp : k.ps.length ≤ 1000) (i : Nat) (s s' : S2) (_ : i < m) (hs : Inv2 k.bl.length (k0 + i * 8072) 0 s) (h : tkE k i s = .inl s') : Inv2 k.bl.length (k0 + (i + 1) * 8072) 0 s' := by
 unfold tkE at h
 cases h1 : mvF k.bl k.l k.t ((i + 1 : Nat) : Int) k.bl.length s with
 | inr e => rw [h1] at h; cases h
 | inl s1 =>
  rw [h1] at h
  have a := A1h hs h1
  simp only at h
  cases h2 : seF k.bl k.c k.t ((i + 1 : Nat) : Int) k.w k.fl k.bl.length s1 with
  | inr e => rw [h2] at h; cases h
  | inl s2 =>
   rw [h2] at h
   have b := Aco hn a h2
   simp only at h
   cases h3 : buF k.bl k.c k.ps k.t ((i + 1 : Nat) : Int) k.w k.fl k.bl.length (s2.1, s1.2.1, s2.2) with
   | inr e => rw [h3] at h; cases h
   | inl s3 =>
    rw [h3] at h
    cases h
    have c := Aso b h3
    have d : k.bl.length * k.ps.length ≤ 8 * 1000 := Nat.mul_le_mul hn hp
    exact ⟨c.m, c.o, by have := c.k; simp only at this ⊢; omega⟩
def ctG (m : GM) : CT := ⟨gmB m, gmL m, gmC m, gmP m, gmW m, gmF m, gmT m⟩
theorem Asp {x : GB} {i : Int} {s : S2} {k : Nat} (hsz : (x.1.1.size : Int) ≤ As .i64) (hn : nBx x.1 ≤ 8) (hs : Inv2 (nBx x.1) k 0 s) (hk : k ≤ 900000) : A4v (xS x i s) = some (mvF (gmB x.1) (gmL x.1) (gmT x.1) i (nBx x.1) s) := by
 have h : Oo (xS x i s) = true := by
  have := hs.k
  unfold Oo
  rw [Bool.and_eq_true, decide_eq_true_eq]
  exact ⟨G9.2 ⟨hsz, hs.m, hs.o, hn⟩, by show s.2.2.length ≤ 900000; omega⟩
 unfold A4v; rw [h]; rfl
theorem Asq {x : GB} {i : Int} {s : S2} {k : Nat} (hsz : (x.1.1.size : Int) ≤ As .i64) (hn : nBx x.1 ≤ 8) (hs : Inv2 (nBx x.1) k 0 s) (hk : k ≤ 900000) : Oq (xS x i s) = some (seF (gmB x.1) (gmC x.1) (gmT x.1) i (gmW x.1) (gmF x.1) (nBx x.1) s) := by
 have h : Oo (xS x i s) = true := by
  have := hs.k
  unfold Oo
  rw [Bool.and_eq_true, decide_eq_true_eq]
  exact ⟨G9.2 ⟨hsz, hs.m, hs.o, hn⟩, by show s.2.2.length ≤ 900000; omega⟩
 unfold Oq; rw [h]; rfl
theorem Asr {x : GB} {i : Int} {s : S2} {k : Nat} (hsz : (x.1.1.size : Int) ≤ As .i64) (hn : nBx x.1 ≤ 8) (hp : (gmP x.1).length ≤ 1000) (hs : Inv2 (nBx x.1) k 0 s) (hk : k ≤ 900000) : A54 (xS x i s) = some (buF (gmB x.1) (gmC x.1) (gmP x.1) (gmT x.1) i (gmW x.1) (gmF x.1) (nBx x.1) s) := by
 have h : A52 (xS x i s) = true := by
  have := hs.k
  unfold A52 Oo
  rw [Bool.and_eq_true, Bool.and_eq_true, decide_eq_true_eq, decide_eq_true_eq]
  exact ⟨⟨G9.2 ⟨hsz, hs.m, hs.o, hn⟩, by show s.2.2.length ≤ 900000; omega⟩, hp⟩
 unfold A54; rw [h]; rfl
def Alj (f : Nat) (x : GB) (i : Nat) (s : S2) : (A9j f).T := (((), ()), xS x ((i + 1 : Nat) : Int) s)
def B59 (f : Nat) (x : GB) (s : S2) : A1 (A55 f) := ⟨.exit 0, (((), ()), xS x 17 s)⟩
def Ve (f : Nat) (x : GB) : S2 ⊕ Int → A1 (A55 f)
 | .inl s => B59 f x s
 | .inr e => Ax6 f e
theorem B5a (x : GB) (i j : Int) (s t : S2) : xS (xS x i s) j t = xS x j t := by
 unfold xS gmA
 rfl
theorem A56 {f : Nat} {x : GB} {i : Nat} {s : S2} : Acn f tyG (Alj f x i s) = Vd f tyG x ((i + 1 : Nat) : Int) s := by
 show Vd f tyG (xS x ((i + 1 : Nat) : Int) s) ((i + 1 : Nat) : Int) s = _
 unfold Vd
 simp only [B5a]
theorem B5b {f : Nat} {x : GB} {s : S2} {k0 : Nat} (hsz : (x.1.1.size : Int) ≤ As .i64) (hn : nBx x.1 ≤ 8) (hp : (gmP x.1).length ≤ 1000) (hs : Inv2 (nBx x.1) k0 0 s) (hk0 : k0 ≤ 700000) :
  iter (Acn f tyG) 17 (Alj f x 0 s) = some (Ve f x (Ar (tkE (ctG x.1)) 0 16 s)) := by
 refine G8 16 (fun i s => Alj f x i s) (tkE (ctG x.1)) (Ve f x) (fun i s => Inv2 (nBx x.1) (k0 + i * 8072) 0 s) (fun i s hi hl => ?_) (fun i s s' hi hl h => Acp (k := ctG x.1) (k0 := k0) (m := 16) hn hp i s s' hi hl h) (fun s hl => ?_) 16 0 s (by omega) ⟨hs.m, hs.o, by have := hs.k; omega⟩
 ·rw [A56]
  have e1 := Asp (i := ((i + 1 : Nat) : Int)) hsz hn (s := s) hl (by omega)
  unfold Vd
  rw [decide_eq_true (show ((i + 1 : Nat) : Int) ≤ 16 by omega), cond_true]
  show (thY (A4v (xS x ((i + 1 : Nat) : Int) s)) z2 (Zn f) fun s1 => thY (Oq (xS x ((i + 1 : Nat) : Int) s1)) zM (Zn f) fun s2 => thY (A54 (xS x ((i + 1 : Nat) : Int) (s2.1, s1.2.1, s2.2))) zM (Zn f) fun s3 =>
   .leaf (.inl (((), ()), xS x (W64 (((i + 1 : Nat) : Int) + 1)) (s3.1, s1.2.1, s3.2)))).run = _
  unfold tkE
  change A4v (xS x ((i + 1 : Nat) : Int) s) = some (mvF (ctG x.1).bl (ctG x.1).l (ctG x.1).t ((i + 1 : Nat) : Int) (ctG x.1).bl.length s) at e1
  cases h1 : mvF (ctG x.1).bl (ctG x.1).l (ctG x.1).t ((i + 1 : Nat) : Int) (ctG x.1).bl.length s with
  | inr e => rw [h1] at e1; rw [Zm e1]; rfl
  | inl s1 =>
   rw [h1] at e1
   rw [Zl e1]
   have a : Inv2 (nBx x.1) (k0 + i * 8072 + nBx x.1) 0 s1 := A1h hl h1
   have e2 := Asq (i := ((i + 1 : Nat) : Int)) hsz hn (s := s1) a (by omega)
   change Oq (xS x ((i + 1 : Nat) : Int) s1) = some (seF (ctG x.1).bl (ctG x.1).c (ctG x.1).t ((i + 1 : Nat) : Int) (ctG x.1).w (ctG x.1).fl (ctG x.1).bl.length s1) at e2
   simp only
   cases h2 : seF (ctG x.1).bl (ctG x.1).c (ctG x.1).t ((i + 1 : Nat) : Int) (ctG x.1).w (ctG x.1).fl (ctG x.1).bl.length s1 with
   | inr e => rw [h2] at e2; rw [Zm e2]; rfl
   | inl s2 =>
    rw [h2] at e2
    rw [Zl e2]
    have b : Inv2 (nBx x.1) (k0 + i * 8072 + nBx x.1 + 64) 0 (s2.1, s1.2.1, s2.2) := Aco hn a h2
    have e3 := Asr (i := ((i + 1 : Nat) : Int)) hsz hn hp (s := (s2.1, s1.2.1, s2.2)) b (by omega)
    change A54 (xS x ((i + 1 : Nat) : Int) (s2.1, s1.2.1, s2.2)) = some (buF (ctG x.1).bl (ctG x.1).c (ctG x.1).ps (ctG x.1).t ((i + 1 : Nat) : Int) (ctG x.1).w (ctG x.1).fl (ctG x.1).bl.length (s2.1, s1.2.1, s2.2)) at e3
    simp only
    cases h3 : buF (ctG x.1).bl (ctG x.1).c (ctG x.1).ps (ctG x.1).t ((i + 1 : Nat) : Int) (ctG x.1).w (ctG x.1).fl (ctG x.1).bl.length (s2.1, s1.2.1, s2.2) with
    | inr e => rw [h3] at e3; rw [Zm e3]; rfl
    | inl s3 =>
     rw [h3] at e3
     rw [Zl e3, Bp (by omega) (by omega)]
     rfl
 ·rw [A56]
  rfl
noncomputable def X_ti (f : Nat) (Y : TY) : Ctx := S7 Tryz.prog Tf [(68, Tryz.f68), (57, Tryz.f57)] [((68, 4), sm_tk f Y)] (spT f Y)
theorem Ass {f : Nat} {Y : TY} (h : ∀ p ∈ spT f Y, Plain Tryz.prog p.1 ∧ Bb Tryz.prog p.1 p.2) (hl : Aj Tryz.prog 68 Ali (sm_tk f Y)) : CtxOk (X_ti f Y) :=
 Fj Ab Uy (fns_cons is_bd (fns_cons is_a8 A2)) (E4 (Lx (ds := [Ali]) (by kernel_rfl) ⟨I0 (k := 4) (by kernel_rfl) rfl hl, trivial⟩) (E4 (Om (by kernel_rfl)) Ia)) h
def A57 (f : Nat) (e : Int) : TU f := .leaf ⟨false, pnU f e⟩
def B5c (v : GB) : GB := (gmA v.1 (gmM v.1) (gmO v.1) (max 0 (W64 (gmF v.1 - 1))) (W64 (gmT v.1 + 1)) (gmS v.1), (gk v, ()), ())
def Azn (f : Nat) (y : Option (A1 (A55 f))) : TU f := bif isP 44 .i64 y then A57 f (panO 44 .i64 y).1 else bif isE (.exit 0) y then .leaf ⟨true, ((), B5c (C0 (.exit 0) y).2)⟩ else .fail
def Azo (f : Nat) (Y : TY) (x : GB) (ms : Ae) : Option (A1 (A55 f)) := iter (Acn f Y) 17 (((), ()), xS x 1 (ms, gmO x.1, gk x))
def T_ti (f : Nat) (Y : TY) (x : GB) : TU f := bif gmT x.1 == 4000 then A57 f 3 else thY (Y.s x) [] (A57 f) fun ms => Azn f (Azo f Y x ms)
def slE (l : TCT An) (os : List Bool) (w fl : Int) (i : Nat) (ms : Ae) : Ae ⊕ Int :=
 bif !C2 ms os i || Eg w fl i then .inl ms else bif G7 l (Ag ms i).1 != 0 then .inr (G7 l (Ag ms i).1) else
 bif (Ln l (Ag ms i)).2.1 != 0 then .inr 4 else .inl (B1 ms i (A92 l (Ag ms i)))
def tkF (k : CT) (s : S2) : S2 ⊕ Int := bif k.t == 4000 then .inr 3 else match Ar (slE k.l s.2.1 k.w k.fl) 0 k.bl.length s.1 with
 | .inr e => .inr e
 | .inl ms => Ar (tkE k) 0 16 (ms, s.2.1, s.2.2)
def Afe (x : GB) : Bool := A52 x && decide ((gk x).length ≤ 700000)
theorem Alk {x : GB} (h : Afe x = true) : OkGM x.1 ∧ (gk x).length ≤ 700000 ∧ (gmP x.1).length ≤ 1000 := by
 unfold Afe at h
 simp only [Bool.and_eq_true, decide_eq_true_eq] at h
 have a := A53 h.1
 exact ⟨a.1, h.2, a.2.2⟩
def A1i (x : GB) : Option (S2 ⊕ Int) := bif Afe x then some (tkF (ctG x.1) (gs x)) else none
def xT (x : GB) (s : S2) : GB := (gmA x.1 s.1 s.2.1 (max 0 (W64 (gmF x.1 - 1))) (W64 (gmT x.1 + 1)) 17, (s.2.2, ()), ())
def B99 {β : Type} (m : GM) (ms : Ae) (os : List Bool) (k : GM → β) : β := match m with
 | (a0, a1, a2, a3, a4, a5, a6, a7, a8, a9, a10, a11, a12, a13, a14, _, _, a17, a18, a19, _, a21, _) => k (a0, a1, a2, a3, a4, a5, a6, a7, a8, a9, a10, a11, a12, a13, a14, ms, os, a17, max 0 (W64 (a18 - 1)), W64 (a19 + 1), 17, a21, ())
def B5d (f : Nat) (x : GB) (s : S2) (k : (FE_u f true).T → Tree (Bx (FE_u f))) : Tree (Bx (FE_u f)) := B99 x.1 s.1 s.2.1 fun m => k ((), (m, (s.2.2, ()), ()))
def Azp (f : Nat) (x : GB) (s : S2) : (FE_u f true).T := ((), xT x s)
theorem Ast {f : Nat} (Y : Y2) : (Sm (L := FL_g f) (E := FE_u f) (fun g => Y g.2) (fun g => B5d f g.2) (pnU f) ([], [], [])) = (Uz (L := FL_g f) (E := FE_u f) (fun g => Y g.2) (fun g => Azp f g.2) (pnU f) ([], [], [])) := rfl
abbrev spYT (f : Nat) (Y : Y2) : SPf := Hy Js (FL_g f) (FE_u f) (Sm (fun g : (FL_g f).T => Y g.2) (fun g => B5d f g.2) (pnU f) ([], [], []))
theorem Azq {f : Nat} {g : (FL_g f).T} {z : S2 ⊕ Int} (h : A1i g.2 = some z) : (T_ti f tyG g.2).run = some (Yb (L := FL_g f) (E := FE_u f) (fun g => Azp f g.2) (pnU f) g z) := by
 unfold A1i at h
 cases ho : Afe g.2 with
 | false => rw [ho] at h; cases h
 | true =>
  rw [ho] at h
  cases h
  obtain ⟨hg, hk, hp⟩ := Alk ho
  unfold T_ti tkF
  show Tree.run (bif gmT g.2.1 == 4000 then A57 f 3 else thY (V4 g.2) [] (A57 f) fun ms => Azn f (Azo f tyG g.2 ms)) = some (Yb (L := FL_g f) (E := FE_u f) (fun g => Azp f g.2) (pnU f) g (bif gmT g.2.1 == 4000 then .inr 3 else match Ar (slE (gmL g.2.1) (gmO g.2.1) (gmW g.2.1) (gmF g.2.1)) 0 (nBx g.2.1) (gmM g.2.1) with
   | .inr e => .inr e
   | .inl ms => Ar (tkE (ctG g.2.1)) 0 16 (ms, gmO g.2.1, gk g.2)))
  cases gmT g.2.1 == 4000 with
  | true => rfl
  | false =>
   simp only [cond_false]
   have e1 : V4 g.2 = some (Ar (slE (gmL g.2.1) (gmO g.2.1) (gmW g.2.1) (gmF g.2.1)) 0 (nBx g.2.1) (gmM g.2.1)) := by
    unfold V4
    rw [G9.2 hg]
    rfl
   cases h1 : Ar (slE (gmL g.2.1) (gmO g.2.1) (gmW g.2.1) (gmF g.2.1)) 0 (nBx g.2.1) (gmM g.2.1) with
   | inr e => rw [h1] at e1; rw [Zm e1]; rfl
   | inl ms =>
    rw [h1] at e1
    rw [Zl e1]
    have hms : ms.length = nBx g.2.1 := Ax (n := nBx g.2.1) (Inv := fun _ (s : Ae) => s.length = nBx g.2.1) (fun i s s' hi hl h => Akj (m := g.2.1) i s s' hi hl h) (nBx g.2.1) 0 _ _ (by omega) hg.ms h1
    have hy : Azo f tyG g.2 ms = some (Ve f g.2 (Ar (tkE (ctG g.2.1)) 0 16 (ms, gmO g.2.1, gk g.2))) := B5b (x := g.2) (s := (ms, gmO g.2.1, gk g.2)) (k0 := (gk g.2).length) hg.sz hg.n hp ⟨hms, hg.os, by show (gk g.2).length ≤ (gk g.2).length + 0; omega⟩ hk
    rw [hy]
    simp only
    cases Ar (tkE (ctG g.2.1)) 0 16 (ms, gmO g.2.1, gk g.2) with
    | inl s => rfl
    | inr e =>
     have h1 : isP 44 .i64 (some (Ve f g.2 (.inr e))) = true := N0
     have h2 : panO 44 .i64 (some (Ve f g.2 (.inr e))) = ⟨e, ((), ())⟩ := Ih
     unfold Azn
     rw [h1, h2]
     rfl
theorem Azr (Y : TY) (g : (FL_g 67).T) : Kv (X_ti 67 Y) (Ch (X_ti 67 Y) 6) 68 (ofKs (FL_g 67).ks g.1 (FL_g 67).nx) ((FL_g 67).lay.hp g) ((FL_g 67).lay.of g).nx (Qz (FE_u 67)) = T_ti 67 Y g.2 := by kernel_rfl
theorem Asu : Bb Tryz.prog 68 (spYT 67 A1i) := by
 rw [spYT, Ast]
 exact Rf (Ass Ax5 (Azm Ax5)) 6 N4 _ _ _ _ (fun g => T_ti 67 tyG g.2) (Azr tyG) fun _ _ _ h => Azq h
end St
theorem Fx {S B : Type} {f : Nat → S → S ⊕ B} : ∀ (k i : Nat) (s : S) (b : B), Ar f i k s = .inr b → ∃ j t, f j t = .inr b
 | 0, _, _, _, h => by cases h
 | k + 1, i, s, b, h => by
  unfold Ar at h
  cases hf : f i s with
  | inl t => rw [hf] at h; exact Fx k (i + 1) t b h
  | inr c => rw [hf] at h; cases h; exact ⟨i, s, hf⟩
namespace St
theorem is_bg : FnIs Tryz.prog (21, Tryz.f21) := ⟨Tryz.func21, by kernel_rfl, by kernel_rfl⟩
theorem is_bh : FnIs Tryz.prog (52, Tryz.f52) := ⟨Tryz.func52, by kernel_rfl, by kernel_rfl⟩
theorem is_bi : FnIs Tryz.prog (54, Tryz.f54) := ⟨Tryz.func54, by kernel_rfl, by kernel_rfl⟩
theorem is_bj : FnIs Tryz.prog (108, Tryz.f108) := ⟨Tryz.func108, by kernel_rfl, by kernel_rfl⟩
theorem is_bk : FnIs Tryz.prog (106, Tryz.f106) := ⟨Tryz.func106, by kernel_rfl, by kernel_rfl⟩
theorem is_bl : FnIs Tryz.prog (107, Tryz.f107) := ⟨Tryz.func107, by kernel_rfl, by kernel_rfl⟩
theorem Azs {l : TCT An} {os : List Bool} {w fl : Int} {i : Nat} {ms : Ae} {e : Int} (h : slE l os w fl i ms = .inr e) : e ≠ 0 := by
 unfold slE at h
 cases h1 : !C2 ms os i || Eg w fl i with
 | true => rw [h1] at h; cases h
 | false =>
  rw [h1] at h
  cases h2 : G7 l (Ag ms i).1 != 0 with
  | true => rw [h2] at h; cases h; exact bne_iff_ne.1 h2
  | false =>
   rw [h2] at h
   cases h3 : (Ln l (Ag ms i)).2.1 != 0 with
   | true => rw [h3] at h; cases h; decide
   | false => rw [h3] at h; cases h
theorem Azt {bl : List (TCT A3)} {os : List Bool} {i : Nat} {ms : Ae} {e : Int} (h : stE bl os i ms = .inr e) : e ≠ 0 := by
 unfold stE at h
 cases h1 : !C2 ms os i with
 | true => rw [h1] at h; cases h
 | false =>
  rw [h1] at h
  cases h3 : (Rh (Ec bl i) (Ag ms i)).2.1 != 0 with
  | true => rw [h3] at h; cases h; exact bne_iff_ne.1 h3
  | false => rw [h3] at h; cases h
theorem Azu {bl : List (TCT A3)} {l : TCT An} {t st : Int} {n : Nat} {s : S2} {e : Int} (h : mvF bl l t st n s = .inr e) : e ≠ 0 := by
 unfold mvF at h
 cases h1 : Ar (stE bl s.2.1) 0 n s.1 with
 | inr e' =>
  rw [h1] at h
  cases h
  obtain ⟨j, t, hj⟩ := Fx _ _ _ _ h1
  exact Azt hj
 | inl ms =>
  rw [h1] at h
  obtain ⟨s', hs'⟩ := Rj (Aca (l := l) (t := t) (st := st)) n 0 (ms, s.2.1, s.2.2)
  change Ar (lvE l t st) 0 n (ms, s.2.1, s.2.2) = .inr e at h
  rw [hs'] at h
  cases h
theorem A9k {bl : List (TCT A3)} {c : TCT Dz} {t st w fl : Int} {n : Nat} {s : S2} {e : Int} (h : seF bl c t st w fl n s = .inr e) : e ≠ 0 := by
 unfold seF at h
 cases he : (seS bl c w fl n s).2.2.1 != 0 with
 | true => rw [he] at h; cases h; exact bne_iff_ne.1 he
 | false => rw [he] at h; cases h
theorem Azv {b : TCT A3} {c : TCT Dz} {ps : Dss} {os : List Bool} {w fl t st : Int} {i k : Nat} {s : MK} {e : Int} (h : bpE b c ps os w fl t st i k s = .inr (.inr e)) : e ≠ 0 := by
 unfold bpE at h
 cases h1 : !C2 s.1 os i || Eg w fl i with
 | true => rw [h1] at h; cases h
 | false =>
  rw [h1] at h
  cases h2 : (bmV b (Ag s.1 i) (Gi ps k) c).2.1 == 0 with
  | true => rw [h2] at h; cases h
  | false =>
   rw [h2] at h
   cases h3 : (bmV b (Ag s.1 i) (Gi ps k) c).2.1 == 4 with
   | true =>
    rw [h3] at h
    cases h
    exact beq_eq_false_iff_ne.1 h2
   | false => rw [h3] at h; cases h
theorem Azw {bl : List (TCT A3)} {c : TCT Dz} {ps : Dss} {t st w fl : Int} {n : Nat} {s : S2} {e : Int} (h : buF bl c ps t st w fl n s = .inr e) : e ≠ 0 := by
 unfold buF at h
 obtain ⟨j, u, hj⟩ := Fx _ _ _ _ h
 unfold boE at hj
 cases hf : Ar (bpE (Ec bl j) c ps s.2.1 w fl t st j) 0 ps.length u with
 | inl a => rw [hf] at hj; cases hj
 | inr y =>
  rw [hf] at hj
  obtain ⟨k, v, hk⟩ := Fx _ _ _ _ hf
  have : y = .inr e := hj
  subst this
  exact Azv hk
theorem Azx {k : CT} {i : Nat} {s : S2} {e : Int} (h : tkE k i s = .inr e) : e ≠ 0 := by
 unfold tkE at h
 cases h1 : mvF k.bl k.l k.t ((i + 1 : Nat) : Int) k.bl.length s with
 | inr e' => rw [h1] at h; cases h; exact Azu h1
 | inl s1 =>
  rw [h1] at h
  simp only at h
  cases h2 : seF k.bl k.c k.t ((i + 1 : Nat) : Int) k.w k.fl k.bl.length s1 with
  | inr e' => rw [h2] at h; cases h; exact A9k h2
  | inl s2 =>
   rw [h2] at h
   simp only at h
   cases h3 : buF k.bl k.c k.ps k.t ((i + 1 : Nat) : Int) k.w k.fl k.bl.length (s2.1, s1.2.1, s2.2) with
   | inr e' => rw [h3] at h; cases h; exact Azw h3
   | inl s3 => rw [h3] at h; cases h
theorem All {k : CT} {s : S2} {e : Int} (h : tkF k s = .inr e) : e ≠ 0 := by
 unfold tkF at h
 cases h0 : k.t == 4000 with
 | true => rw [h0] at h; cases h; decide
 | false =>
  rw [h0] at h
  simp only [cond_false] at h
  cases h1 : Ar (slE k.l s.2.1 k.w k.fl) 0 k.bl.length s.1 with
  | inr e' =>
   rw [h1] at h
   cases h
   obtain ⟨j, t, hj⟩ := Fx _ _ _ _ h1
   exact Azs hj
  | inl ms =>
   rw [h1] at h
   obtain ⟨j, t, hj⟩ := Fx _ _ _ _ h
   exact Azx hj
def ctS (g : TCT cGr) (s : TCT cSt) : CT := ⟨A4 g, g.1, g.2.2.1, Ho g.1, s.2.2.1, s.2.2.2.1, s.2.2.2.2.1⟩
abbrev TkR : Type := TCTs [cSt, .sl cKn, cI]
def K3 (e : Int) : TkR := (zS, [], e, ())
def tkR (s : TCT cSt) : S2 ⊕ Int → TkR
 | .inl r => ((r.1, r.2.1, s.2.2.1, max 0 (W64 (s.2.2.2.1 - 1)), W64 (s.2.2.2.2.1 + 1), ()), r.2.2, 0, ())
 | .inr e => K3 e
def tkV (g : TCT cGr) (s : TCT cSt) : TkR := tkR s (tkF (ctS g s) (msT s, osT s, []))
def He (g : TCT cGr) (s : TCT cSt) : TkR := bif Dy g s != 0 then K3 (Dy g s) else tkV g s
def A1j (r : TkR) : TkR := (Y8 r.1, r.2.1, r.2.2.1, ())
abbrev Asv : PureT := B4 [cGr, cSt] [cSt, .sl cKn, cI] (fun x => decide ((x.1.1.1.size : Int) ≤ As .i64)) (fun x => A1j (He x.1 x.2.1))
abbrev TTR := Tree TkR
def gT (g : TCT cGr) (s : TCT cSt) : GB := ((g.1.1, g.1.2.1, g.1.2.2.1, g.1.2.2.2.1, g.1.2.2.2.2.1, g.1.2.2.2.2.2.1.1.1, g.1.2.2.2.2.2.1.1.2.1, g.1.2.2.2.2.2.1.2.1, g.1.2.2.2.2.2.2.1, g.1.2.2.2.2.2.2.2.1, g.1.2.2.2.2.2.2.2.2.1, g.2.1, g.2.2.1.1, g.2.2.1.2.1, Ho g.1, ([] ++ s.1), ([] ++ s.2.1), s.2.2.1, s.2.2.2.1, s.2.2.2.2.1, 0, ((), (), ()), ()), ([], ()), ())
def neT {β : Type} {c : Type} (l : List c) (k : Tree β) : Tree β := bif !List.isEmpty l then k else .fail
theorem A1k {β : Type} {c : Type} {l : List c} {k : Tree β} (h : 1 ≤ l.length) : neT l k = k := by
 cases l with
 | nil => simp at h
 | cons _ _ => rfl
def acT {β : Type} {c : Type} (l : List c) (b : Nat) (k : Tree β) : Tree β := bif Ey [] l b then k else .fail
theorem Ot {β : Type} {c : Type} {l : List c} {b : Nat} {k : Tree β} (h : l.length ≤ 1000) (hb : b ≤ 48) : acT l b k = k := by
 unfold acT
 rw [Lw (by simp; omega) hb]; rfl
def Asw (Y : Y2) (g : TCT cGr) (s : TCT cSt) : TTR := szT g.1 (bif Dy g s != 0 then .leaf (K3 (Dy g s)) else szT g.1 (neT (msT s) (acT (msT s) 48 (neT (osT s) (acT (osT s) 1 (
 thY (Y (gT g s)) z2 (fun e => bif e != 0 then .leaf (K3 e) else .fail) fun r => .leaf (tkR s (.inl r))))))))
abbrev Azy : List (Nat × PureT) := (105, Pp) :: Tf
theorem B5e : Bu Tryz.prog Azy := A0 is_aN.plain Abx Uy
noncomputable def B9a : List (Nat × Func) := [(21, Tryz.f21), (52, Tryz.f52), (54, Tryz.f54), (108, Tryz.f108), (106, Tryz.f106), (107, Tryz.f107)]
noncomputable def B5f (Y : Y2) : Ctx := S7 Tryz.prog Azy B9a [] [(68, spYT 67 Y)]
theorem Asx (Y : Y2) (x : TCTs [cGr, cSt]) : Ch (B5f Y) 8 (.fn 21) (Co [cGr, cSt] x) Bl 0 (Hn Tryz.prog [cSt, .sl cKn, cI]) = Asw Y x.1 x.2.1 := by kernel_rfl
theorem Asy : CtxOk (B5f A1i) := Fj Ab B5e (fns_cons is_bg (fns_cons is_bh (fns_cons is_bi (fns_cons is_bj (fns_cons is_bk (fns_cons is_bl A2)))))) K2 (fun p hp => by
 rw [List.mem_singleton] at hp; subst hp; exact ⟨is_bd.plain, Asu⟩)
theorem Vf {l : TCT An} : (Ho l).length ≤ 25 := by
 unfold Ho
 cases h : C8 l == 0 with
 | false => show (0 : Nat) ≤ 25; omega
 | true =>
  have k : C8 l = 0 := beq_iff_eq.1 h
  have hh : (Ak l).length ≤ 12 := by
   unfold C8 Lc at k
   cases h1 : decide (((Ak l).length : Int) < 1) || (decide (((Ak l).length : Int) > 12) || decide (((Bt l).length : Int) > 256)) with
   | true => rw [h1] at k; cases k
   | false =>
    simp only [Bool.or_eq_false_iff, decide_eq_false_iff_not] at h1
    omega
  show (Ce l).length ≤ 25
  rw [Zf]
  omega
structure StaOk (g : TCT cGr) (s : TCT cSt) : Prop where
 gr : groE g = 0
 n1 : 1 ≤ (A4 g).length
 n8 : (A4 g).length ≤ 8
 m : (msT s).length = (A4 g).length
 o : (osT s).length = (A4 g).length
 ok : Gm (okS g (osT s)) 0 (msT s) = true
 num : A17 (A4 g).length s = false
theorem A1l {g : TCT cGr} {s : TCT cSt} (h : Dy g s = 0) : StaOk g s := by
 unfold Dy at h
 cases h1 : groE g != 0 with
 | true => rw [h1, cond_true] at h; exact absurd h (bne_iff_ne.1 h1)
 | false =>
  have hg : groE g = 0 := bne_eq_false_iff_eq.1 h1
  rw [h1, cond_false] at h
  unfold vaE at h
  cases h2 : Y7 g s with
  | false => rw [h2] at h; cases h
  | true =>
   rw [h2, cond_true] at h
   cases h3 : Gm (okS g (osT s)) 0 (msT s) with
   | false => rw [h3] at h; cases h
   | true =>
    rw [h3, cond_true] at h
    cases h4 : A17 (A4 g).length s with
    | true => rw [h4] at h; cases h
    | false =>
     have a := Ars hg
     have b := Uw h2
     exact ⟨hg, a.1, a.2, b.1, b.2, h3, h4⟩
theorem Asz {g : TCT cGr} {s : TCT cSt} (hs : (g.1.1.size : Int) ≤ As .i64) (h : StaOk g s) : Afe (gT g s) = true := by
 unfold Afe A52 Oo
 simp only [Bool.and_eq_true, decide_eq_true_eq]
 refine ⟨⟨⟨G9.2 ⟨hs, ?_, ?_, h.n8⟩, by show (0 : Nat) ≤ 900000; omega⟩, ?_⟩, by show (0 : Nat) ≤ 700000; omega⟩
 ·show ([] ++ s.1 : Ae).length = (A4 g).length
  rw [List.nil_append]; exact h.m
 ·show ([] ++ s.2.1 : List Bool).length = (A4 g).length
  rw [List.nil_append]; exact h.o
 ·have := Vf (l := g.1)
  show (Ho g.1).length ≤ 1000
  omega
theorem At0 {g : TCT cGr} {s : TCT cSt} (hs : (g.1.1.size : Int) ≤ As .i64) (h : StaOk g s) : A1i (gT g s) = some (tkF (ctS g s) (msT s, osT s, [])) := by
 unfold A1i
 rw [Asz hs h]
 rfl
theorem At1 {g : TCT cGr} {s : TCT cSt} (hs : (g.1.1.size : Int) ≤ As .i64) : (Asw A1i g s).sat (fun y => y = A1j (He g s)) := by
 unfold Asw He
 rw [C5 hs, C5 hs]
 cases h1 : Dy g s != 0 with
 | true => exact rfl
 | false =>
  have h := A1l (bne_eq_false_iff_eq.1 h1)
  have hn1 := h.n1
  have hn8 := h.n8
  have hm := h.m
  have ho := h.o
  simp only [cond_false]
  rw [A1k (by omega), Ot (by omega) (by decide), A1k (by omega), Ot (by omega) (by decide)]
  have hy := At0 hs h
  unfold tkV
  cases hf : tkF (ctS g s) (msT s, osT s, []) with
  | inl r => rw [hf] at hy; rw [Zl hy]; exact rfl
  | inr e =>
   rw [hf] at hy
   rw [Zm hy, show (e != 0) = true from bne_iff_ne.2 (All hf)]
   exact rfl
theorem Acq : A7 Tryz.prog 21 Asv := B2 Asy 8 (fun x => Asw A1i x.1 x.2.1) (Asx A1i) fun x hok _ => At1 (of_decide_eq_true hok)
end St
def Acr (cs rs : List TC) (ok : TCTs cs → Bool) (F : TCTs cs → TCTs rs) : PureT :=
 {
  run := fun l => match K7 cs l with
   | some x => fcTs cs x fun x => fcTs rs (F x) fun y => some (ok x, Agg rs y)
   | none => none
  flat := noSls rs }
theorem Alm (cs rs : List TC) (ok : TCTs cs → Bool) (F : TCTs cs → TCTs rs) : Acr cs rs ok F = B4 cs rs ok F := by
 unfold Acr B4
 congr 1
 funext l
 cases K7 cs l with
 | none => rfl
 | some x => simp only [fcTs_eq]
theorem Aln {P : Program} {f : FuncId} {cs rs : List TC} {ok : TCTs cs → Bool} {F : TCTs cs → TCTs rs} (h : A7 P f (B4 cs rs ok F)) : A7 P f (Acr cs rs ok F) := by rw [Alm]; exact h
mutual
def At2 : (c : TC) → (x y : TCT c) → Decidable (x = y)
 | .b, x, y => instDecidableEqBool x y
 | .i _, x, y => Int.instDecidableEq x y
 | .s, x, y => ByteArray.instDecidableEq x y
 | .sl c, x, y => @instDecidableEqList _ (fun a b => At2 c a b) x y
 | .st cs, x, y => decs4 cs x y
def decs4 : (cs : List TC) → (x y : TCTs cs) → Decidable (x = y)
 | [], (), () => isTrue rfl
 | c :: cs, (a, b), (d, e) => match At2 c a d with
  | isTrue h => match decs4 cs b e with
   | isTrue k => isTrue (by rw [h, k])
   | isFalse k => isFalse fun e => k (Prod.mk.inj e).2
  | isFalse h => isFalse fun e => h (Prod.mk.inj e).1
end
namespace St
theorem is_bm : FnIs Tryz.prog (15, Tryz.f15) := ⟨Tryz.func15, by kernel_rfl, by kernel_rfl⟩
theorem is_bn : FnIs Tryz.prog (44, Tryz.f44) := ⟨Tryz.func44, by kernel_rfl, by kernel_rfl⟩
theorem is_bo : FnIs Tryz.prog (45, Tryz.f45) := ⟨Tryz.func45, by kernel_rfl, by kernel_rfl⟩
theorem is_bp : FnIs Tryz.prog (46, Tryz.f46) := ⟨Tryz.func46, by kernel_rfl, by kernel_rfl⟩
theorem is_bq : FnIs Tryz.prog (16, Tryz.f16) := ⟨Tryz.func16, by kernel_rfl, by kernel_rfl⟩
def exL : TCT An := (⟨#[103, 114, 101, 101, 110]⟩, 100000, 200000, 5000, [(50000, 40000, 6000, 500, false, ()), (30000, 100000, 6000, 500, true, ())], ((50000, 100000, ()), 1200, ()), 2, 1, [(10000, 0, 0, ()), (10000, 0, 0, ())], ())
def exG : TCT cGr := (exL, [(450, 2946, ()), (450, 2946, ())], (800, 0, ()), ())
def exS : TCT cSt := ([((50000, 60000, ()), (0, 200000, ()), (0, 0, ()), ()), ((80000, 60000, ()), (0, 0, ()), (0, 0, ()), ())], [false, false], 0, 0, 0, ())
def ex1 : Ae := [((50000, 60000, ()), (0, 190000, ()), (0, 0, ()), ()), ((80000, 60000, ()), (0, 0, ()), (0, 0, ()), ())]
def ex2 : Ae := [((50000, 60106, ()), (0, 190000, ()), (0, -12800, ()), ()), ((80000, 60000, ()), (0, 0, ()), (0, 0, ()), ())]
def exR : TkR := ((ex2, [false, false], 0, 0, 1, ()), [], 0, ())
theorem Azz : slN 0 200000 = 1600000 := Zu _ _ (by decide) (by decide) (by decide)
theorem At3 : Ln exL (Ag (msT exS) 0) = ((0, 190000, ()), 0, ()) := by
 show Jd 0 200000 10000 = _
 unfold Jd
 rw [Azz]
 rfl
theorem B00 : slE exL [false, false] 0 0 0 (msT exS) = .inl ex1 := by
 unfold slE A92
 rw [At3]
 kernel_rfl
theorem B01 : slE exL [false, false] 0 0 1 ex1 = .inl ex1 := by kernel_rfl
theorem B5g : Ar (tkE (ctS exG exS)) 0 16 (ex1, [false, false], []) = .inl (ex2, [false, false], []) := by kernel_rfl
theorem B02 : Dy exG exS = 0 := by kernel_rfl
theorem B03 {k : CT} {s : S2} {ms : Ae} {r : S2 ⊕ Int} (h0 : (k.t == 4000) = false) (h1 : Ar (slE k.l s.2.1 k.w k.fl) 0 k.bl.length s.1 = .inl ms) (h2 : Ar (tkE k) 0 16 (ms, s.2.1, s.2.2) = r) : tkF k s = r := by
 unfold tkF
 rw [h0]
 simp only [cond_false]
 rw [h1]
 exact h2
theorem Aff {S B : Type} {f : Nat → S → S ⊕ B} {s s1 s2 : S} (h0 : f 0 s = .inl s1) (h1 : f 1 s1 = .inl s2) : Ar f 0 2 s = .inl s2 := by
 unfold Ar
 rw [h0]
 show Ar f 1 1 s1 = _
 unfold Ar
 rw [h1]
 rfl
theorem B04 : tkF (ctS exG exS) (msT exS, osT exS, []) = .inl (ex2, [false, false], []) := B03 (by kernel_rfl) (Aff B00 B01) B5g
theorem Alo : He exG exS = exR := by
 unfold He tkV
 rw [B02, B04]
 rfl
def B05 (g : TCT cGr) (s : TCT cSt) : Bool := match At2 cGr g exG, At2 cSt s exS with
 | isTrue _, isTrue _ => true
 | _, _ => false
theorem At4 {g : TCT cGr} {s : TCT cSt} (h : B05 g s = true) : g = exG ∧ s = exS := by
 unfold B05 at h
 split at h
 ·rename_i h1 h2 _ _
  exact ⟨h1, h2⟩
 ·cases h
abbrev Acs : PureT := B4 [cGr, cSt] [cSt, .sl cKn, cI] (fun x => B05 x.1 x.2.1) (fun _ => exR)
theorem At5 : A7 Tryz.prog 21 Acs := B2u Acq fun x _ h => by
 obtain ⟨g, s, ⟨⟩⟩ := x
 obtain ⟨rfl, rfl⟩ := At4 h
 exact ⟨by kernel_rfl, by
  show exR = A1j (He exG exS)
  rw [Alo]
  rfl⟩
def Afg : PureT := Acr [.sl A3, .sl Ai, Dz] [.sl Ai, .sl Ea, cI] (fun _ => true) (fun x => ((Bi x.1 x.2.1 x.2.2.1.1 x.2.2.1.2.1).1, (Bi x.1 x.2.1 x.2.2.1.1 x.2.2.1.2.1).2.1, (Bi x.1 x.2.1 x.2.2.1.1 x.2.2.1.2.1).2.2.1, ()))
def B06 : List (Nat × PureT) := (114, Afg) :: (56, Ra) :: Azy
theorem B5h : Bu Tryz.prog B06 := A0 is_Settle.plain (Aln A66) (A0 is_bL.plain Yu B5e)
noncomputable def Alp : Ctx := Ahh 20 Tryz.prog B06 B4g
theorem Tr : CtxOk Alp := R7 Ab B5h Ac8
noncomputable def B9b : List (Nat × PureT) := (44, Y0 Alp 40 44 [] [cGr]) :: (45, Y0 Alp 40 45 [cI, cI] [cSt]) :: (46, Y0 Alp 40 46 [] [cBl]) :: (21, Acs) :: (16, Y0 Alp 60 16 [cGr, cSt, cBl] [cSt, .sl cKn, cI]) :: B06
theorem B9c : Bu Tryz.prog B9b := A0 is_bn.plain (R9 Tr _ _ _ _) (A0 is_bo.plain (R9 Tr _ _ _ _) (A0 is_bp.plain (R9 Tr _ _ _ _) (A0 is_bg.plain At5 (A0 is_bq.plain (R9 Tr _ _ _ _) B5h (Gv rfl)) (Gv rfl)) (Gv rfl)) (Gv rfl)) (Gv rfl)
abbrev A1m : PureT := B4 [] [.b] (fun _ => true) (fun _ => (true, ()))
set_option maxRecDepth 100000 in
theorem A58 : A7 Tryz.prog 15 A1m := S6 (R7 (u := 20) Ab B9c Ac8) 60 (fun _ => by kernel_rfl)
end St
end V
end Go.Proofs.YtkiaifmbbnnliaaGreat
