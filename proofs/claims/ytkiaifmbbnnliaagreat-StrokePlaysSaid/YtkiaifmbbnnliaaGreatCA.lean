import Derived.Test.YtkiaifmbbnnliaaGreatBA
namespace Go.Proofs.YtkiaifmbbnnliaaGreat
open Go.RowKit
namespace V
namespace St
abbrev kPt : List SK := [.d cI, .d cI]
def p0 : SKTs kPt := (0, 0, ())
end St
def isL {A B : Type} : Option (A ⊕ B) → Bool
 | some (.inl _) => true
 | _ => false
def isR {A B : Type} : Option (A ⊕ B) → Bool
 | some (.inr _) => true
 | _ => false
def gL {A B : Type} (d : A) : Option (A ⊕ B) → A
 | some (.inl a) => a
 | _ => d
def gR {A B : Type} (d : B) : Option (A ⊕ B) → B
 | some (.inr b) => b
 | _ => d
def FLay.dfl (F : FLay) : F.T := (dflKs F.ks, B9t F.bs)
theorem Gz {α : Type} {t : Tree α} {R S : α → Prop} (h : t.sat R) (k : ∀ x, R x → S x) : t.sat S := by
 induction t with
 | leaf a => exact k a h
 | need p t ih => exact ⟨h.1, ih h.2⟩
 | br c t e i1 i2 => exact ⟨fun x => i1 (h.1 x), fun x => i2 (h.2 x)⟩
 | fail => exact h
def B50 {L : FLay} {E : Bool → FLay} (c : L.T → Bool) (r : L.T → (E true).T) (g : L.T) : Tree (Bl E) := .br (c g) (.leaf ⟨true, r g⟩) .fail
theorem A2f {X : Ctx} (hX : CtxOk X) {f : FuncId} (m : Nat) {probe : Ac → List AV → Option (List Nat)} {L : FLay} {E : Bool → FLay} (hE : ∀ b, L.nx ≤ (E b).nx) (c : L.T → Bool) (r : L.T → (E true).T) (T : L.T → Tree (Bl E))
  (he : ∀ g, H8 X (C4 X m) f (ofKs L.ks g.1 L.nx) (L.lay.hp g) (L.lay.of g).nx (Ki E) = T g)
  (h : ∀ g, L.lay.WF g → c g = true → (T g).run = some ⟨true, r g⟩) : Ax X.P f (Gr probe L E (B50 c r)) :=
 R4 hX m hE fun g R hw hf => by
  rw [he]
  cases hc : c g with
  | false => exact (hf.2 hc).elim
  | true => exact Gz (Tree.sat_run (h g hw hc) (hf.1 hc)) fun x hx _ => hx
namespace St
theorem is_a5 : FnIs Tryz.prog (159, Tryz.f159) := ⟨Tryz.func159, by kernel_rfl, by kernel_rfl⟩
theorem is_a6 : FnIs Tryz.prog (113, Tryz.f113) := ⟨Tryz.func113, by kernel_rfl, by kernel_rfl⟩
theorem is_a7 : FnIs Tryz.prog (115, Tryz.f115) := ⟨Tryz.func115, by kernel_rfl, by kernel_rfl⟩
theorem is_a8 : FnIs Tryz.prog (57, Tryz.f57) := ⟨Tryz.func57, by kernel_rfl, by kernel_rfl⟩
theorem is_a9 : FnIs Tryz.prog (122, Tryz.f122) := ⟨Tryz.func122, by kernel_rfl, by kernel_rfl⟩
theorem is_ba : FnIs Tryz.prog (123, Tryz.f123) := ⟨Tryz.func123, by kernel_rfl, by kernel_rfl⟩
theorem is_bb : FnIs Tryz.prog (58, Tryz.f58) := ⟨Tryz.func58, by kernel_rfl, by kernel_rfl⟩
theorem is_bc : FnIs Tryz.prog (124, Tryz.f124) := ⟨Tryz.func124, by kernel_rfl, by kernel_rfl⟩
theorem is_bd : FnIs Tryz.prog (68, Tryz.f68) := ⟨Tryz.func68, by kernel_rfl, by kernel_rfl⟩
theorem is_be : FnIs Tryz.prog (67, Tryz.f67) := ⟨Tryz.func67, by kernel_rfl, by kernel_rfl⟩
theorem is_bf : FnIs Tryz.prog (144, Tryz.f144) := ⟨Tryz.func144, by kernel_rfl, by kernel_rfl⟩
abbrev kGm (f : Nat) : List SK := [.d .s, .d cI, .d cI, .d cI, .d (.sl Bh), .d cI, .d cI, .d cI, .d cI, .d cI, .d (.sl C7), .d (.sl A4), .d cI, .d cI, .d (.sl Al), .w 2 62 Aj, .o 4 .b, .d cI, .d cI, .d cI, .d cI, .f f [] [.p 1 0 0 0]]
abbrev bsG (f : Nat) : List BK := [(0, 99, kGm f), (1, 43, [.o 57 cKn])]
abbrev GM : Type := SKTs (kGm 0)
abbrev Kns : Type := List (TCT cKn)
abbrev Af : Type := List (TCT Aj)
def gmX (m : GM) : SKTs kGr := (m.1, m.2.1, m.2.2.1, m.2.2.2.1, m.2.2.2.2.1, m.2.2.2.2.2.1, m.2.2.2.2.2.2.1, m.2.2.2.2.2.2.2.1, m.2.2.2.2.2.2.2.2.1, m.2.2.2.2.2.2.2.2.2.1, m.2.2.2.2.2.2.2.2.2.2.1, m.2.2.2.2.2.2.2.2.2.2.2.1, m.2.2.2.2.2.2.2.2.2.2.2.2.1, m.2.2.2.2.2.2.2.2.2.2.2.2.2.1, ())
def gmP (m : GM) : List (TCT Al) := m.2.2.2.2.2.2.2.2.2.2.2.2.2.2.1
def gmM (m : GM) : Af := m.2.2.2.2.2.2.2.2.2.2.2.2.2.2.2.1
def gmO (m : GM) : List Bool := m.2.2.2.2.2.2.2.2.2.2.2.2.2.2.2.2.1
def gmW (m : GM) : Int := m.2.2.2.2.2.2.2.2.2.2.2.2.2.2.2.2.2.1
def gmF (m : GM) : Int := m.2.2.2.2.2.2.2.2.2.2.2.2.2.2.2.2.2.2.1
def gmT (m : GM) : Int := m.2.2.2.2.2.2.2.2.2.2.2.2.2.2.2.2.2.2.2.1
def gmS (m : GM) : Int := m.2.2.2.2.2.2.2.2.2.2.2.2.2.2.2.2.2.2.2.2.1
def gmU (m : GM) (ms : Af) (os : List Bool) : GM := (m.1, m.2.1, m.2.2.1, m.2.2.2.1, m.2.2.2.2.1, m.2.2.2.2.2.1, m.2.2.2.2.2.2.1, m.2.2.2.2.2.2.2.1, m.2.2.2.2.2.2.2.2.1, m.2.2.2.2.2.2.2.2.2.1, m.2.2.2.2.2.2.2.2.2.2.1, m.2.2.2.2.2.2.2.2.2.2.2.1, m.2.2.2.2.2.2.2.2.2.2.2.2.1, m.2.2.2.2.2.2.2.2.2.2.2.2.2.1, m.2.2.2.2.2.2.2.2.2.2.2.2.2.2.1, ms, os, m.2.2.2.2.2.2.2.2.2.2.2.2.2.2.2.2.2.1, m.2.2.2.2.2.2.2.2.2.2.2.2.2.2.2.2.2.2.1, m.2.2.2.2.2.2.2.2.2.2.2.2.2.2.2.2.2.2.2.1, m.2.2.2.2.2.2.2.2.2.2.2.2.2.2.2.2.2.2.2.2.1, m.2.2.2.2.2.2.2.2.2.2.2.2.2.2.2.2.2.2.2.2.2.1, ())
def gmB (m : GM) : List (TCT A4) := blX (gmX m)
def gmL (m : GM) : TCT An := lwG (gmX m)
abbrev GB : Type := GM × SKTs [.o 0 cKn] × Unit
def gb (m : GM) (k : Kns) : GB := (m, (k, ()), ())
def Vj : List (Nat × PureT) := (73, A0c) :: (160, Pw) :: (161, A3w) :: (162, A3s) :: (163, A3u) :: (114, Q7) :: B4z
def Aif : List AV → List Nat
 | [] => []
 | .own i :: l => i :: Aif l
 | _ :: l => Aif l
def Jt (hp : Ac) (args : List AV) : Option (List Nat) := match args with
 | .ptr id _ _ _ :: _ => match hp id with
  | some (.blk b) => match nth b.cs 21 with
   | some (.fn _ _ [.ptr k _ _ _]) => match hp k with
    | some (.blk c) => some (id :: k :: (Aif b.cs ++ Aif c.cs))
    | _ => none
   | _ => none
  | _ => none
 | _ => none
def A5v (f : Nat) : FLay := { ks := [.p 0 0 0 0, .d cI], bs := bsG f, nx := 1000 }
def Bgq (f : Nat) : FLay := { ks := [.d .b], bs := bsG f, nx := 1000 }
def FN : FLay := { ks := [.i 44 .i64], bs := [], nx := 1000 }
def Z2 (f : Nat) (b : Bool) : FLay := bif b then Bgq f else FN
def inO {β : Type} (n : Nat) (i : Int) (k : Tree β) : Tree β := inN n i (bif decide (Int.toNat i < n) then k else .fail)
theorem Bp {β : Type} {n : Nat} {i : Int} {k : Tree β} (h : 0 ≤ i ∧ i < (n : Int)) : inO n i k = k := by
 unfold inO
 rw [Ci h, decide_eq_true (by omega)]; rfl
def C1 (ms : Af) (os : List Bool) (i : Nat) : Bool := !At os i (Aq .b) && A2e (At ms i (Aq Aj))
def El (w fl i : Int) : Bool := (i == w) && decide (fl > 0)
def Z3 (ms : Af) (os : List Bool) (i : Int) : Bool := decide (0 ≤ i ∧ i < (os.length : Int) ∧ i < (ms.length : Int))
def lfB (f : Nat) (b : Bool) (x : GB) : Tree (Bl (Z2 f)) := .leaf ⟨true, ((b, ()), x)⟩
def T_ro (f : Nat) (i : Int) (m : GM) (x : GB) : Tree (Bl (Z2 f)) := inO (gmO m).length i (bif !At (gmO m) (Int.toNat i) (Aq .b) then inO (gmM m).length i (lfB f (A2e (At (gmM m) (Int.toNat i) (Aq Aj))) x) else lfB f false x)
abbrev C_ro (f : Nat) (g : (A5v f).T) : Bool := Z3 g.2.1.2.2.2.2.2.2.2.2.2.2.2.2.2.2.2.1 g.2.1.2.2.2.2.2.2.2.2.2.2.2.2.2.2.2.2.1 g.1.2.1
def V_ro (f : Nat) (g : (A5v f).T) : (Z2 f true).T := ((C1 g.2.1.2.2.2.2.2.2.2.2.2.2.2.2.2.2.2.1 g.2.1.2.2.2.2.2.2.2.2.2.2.2.2.2.2.2.2.1 (Int.toNat g.1.2.1), ()), g.2)
def C_fl (f : Nat) (_ : (A5v f).T) : Bool := true
def V_fl (f : Nat) (g : (A5v f).T) : (Z2 f true).T := ((El g.2.1.2.2.2.2.2.2.2.2.2.2.2.2.2.2.2.2.2.1 g.2.1.2.2.2.2.2.2.2.2.2.2.2.2.2.2.2.2.2.2.1 g.1.2.1, ()), g.2)
def T_fl (f : Nat) (i : Int) (m : GM) (x : GB) : Tree (Bl (Z2 f)) := bif i == gmW m then lfB f (decide (gmF m > 0)) x else lfB f false x
theorem U4 {f : Nat} (b : Bool) : 1000 ≤ (Z2 f b).nx := by cases b <;> exact Nat.le_refl _
theorem Anr {f : Nat} {g : (A5v f).T} (h : C_ro f g = true) : (T_ro f g.1.2.1 g.2.1 g.2).run = some ⟨true, V_ro f g⟩ := by
 have hd : 0 ≤ g.1.2.1 ∧ g.1.2.1 < ((gmO g.2.1).length : Int) ∧ g.1.2.1 < ((gmM g.2.1).length : Int) := of_decide_eq_true h
 unfold V_ro
 show (T_ro f g.1.2.1 g.2.1 g.2).run = some (⟨true, ((C1 (gmM g.2.1) (gmO g.2.1) (Int.toNat g.1.2.1), ()), g.2)⟩ : Bl (Z2 f))
 unfold T_ro C1
 rw [Bp ⟨hd.1, hd.2.1⟩, Bp ⟨hd.1, hd.2.2⟩]
 cases At (gmO g.2.1) (Int.toNat g.1.2.1) (Aq .b) <;> rfl
theorem Ans {f : Nat} {g : (A5v f).T} : (T_fl f g.1.2.1 g.2.1 g.2).run = some ⟨true, V_fl f g⟩ := by
 unfold V_fl
 show (T_fl f g.1.2.1 g.2.1 g.2).run = some (⟨true, ((El (gmW g.2.1) (gmF g.2.1) g.1.2.1, ()), g.2)⟩ : Bl (Z2 f))
 unfold T_fl El
 cases g.1.2.1 == gmW g.2.1 <;> rfl
abbrev sp_ro (f : Nat) : Ac → Nat → List AV → Tree (Out × Ac × Nat) := Gr Jt (A5v f) (Z2 f) (B50 (fun g => Z3 g.2.1.2.2.2.2.2.2.2.2.2.2.2.2.2.2.2.1 g.2.1.2.2.2.2.2.2.2.2.2.2.2.2.2.2.2.2.1 g.1.2.1) (V_ro f))
abbrev sp_fl (f : Nat) : Ac → Nat → List AV → Tree (Out × Ac × Nat) := Gr Jt (A5v f) (Z2 f) (B50 (fun _ => true) (V_fl f))
theorem Z4 : By Tryz.prog Vj := A0 is_aZ.plain B1z (A0 is_aQ.plain An5 (A0 is_Slow.plain B9d (A0 is_Step.plain B9a (A0 is_Bump.plain B9c (A0 is_Settle.plain A7n Bbd)))))
noncomputable def Bgr : Ctx := ctx Tryz.prog Vj [(159, Tryz.f159), (113, Tryz.f113)]
theorem U5 : CtxOk Bgr := Ad Ab Z4 (fns_cons is_a5 (fns_cons is_a6 A2))
theorem Fw : Ax Tryz.prog 159 (sp_ro 67) := A2f U5 6 U4 (C_ro 67) (V_ro 67) (fun g => T_ro 67 g.1.2.1 g.2.1 g.2) (fun g => by kernel_rfl) fun _ _ h => Anr h
theorem Fx : Ax Tryz.prog 113 (sp_fl 67) := A2f U5 6 U4 (C_fl 67) (V_fl 67) (fun g => T_fl 67 g.1.2.1 g.2.1 g.2) (fun g => by kernel_rfl) fun _ _ _ => Ans
theorem Fy : Ax Tryz.prog 159 (sp_ro 144) := A2f U5 6 U4 (C_ro 144) (V_ro 144) (fun g => T_ro 144 g.1.2.1 g.2.1 g.2) (fun g => by kernel_rfl) fun _ _ h => Anr h
theorem Fz : Ax Tryz.prog 113 (sp_fl 144) := A2f U5 6 U4 (C_fl 144) (V_fl 144) (fun g => T_fl 144 g.1.2.1 g.2.1 g.2) (fun g => by kernel_rfl) fun _ _ _ => Ans
end St
def Vk {L : FLay} {E : Bool → FLay} {A : Type} (Y : L.T → Option (A ⊕ Int)) (mk : L.T → A → (E true).T) (pn : Int → (E false).T) (d : A) (g : L.T) : Tree (Bl E) :=
 .br (isL (Y g)) (.leaf ⟨true, mk g (gL d (Y g))⟩) (.br (isR (Y g)) (.leaf ⟨false, pn (gR 0 (Y g))⟩) .fail)
def Z5 {L : FLay} {E : Bool → FLay} {A : Type} (mk : L.T → A → (E true).T) (pn : Int → (E false).T) (g : L.T) : A ⊕ Int → Bl E
 | .inl a => ⟨true, mk g a⟩
 | .inr e => ⟨false, pn e⟩
theorem Ant {L : FLay} {E : Bool → FLay} {A : Type} {Y : L.T → Option (A ⊕ Int)} {mk : L.T → A → (E true).T} {pn : Int → (E false).T} {d : A} {g : L.T} {R : Bl E → Prop} (h : (Vk Y mk pn d g).sat R) : ∃ z, Y g = some z ∧ R (Z5 mk pn g z) := by
 unfold Vk at h
 obtain ⟨h1, h2⟩ := h
 cases hF : Y g with
 | none =>
  rw [hF] at h2
  exact ((h2 rfl).2 rfl).elim
 | some z =>
  cases z with
  | inl a => rw [hF] at h1; exact ⟨_, rfl, h1 rfl⟩
  | inr b => rw [hF] at h2; exact ⟨_, rfl, (h2 rfl).1 rfl⟩
theorem Ju {X : Ctx} (hX : CtxOk X) {f : FuncId} (m : Nat) {probe : Ac → List AV → Option (List Nat)} {L : FLay} {E : Bool → FLay} (hE : ∀ b, L.nx ≤ (E b).nx) {A : Type} (Y : L.T → Option (A ⊕ Int)) (mk : L.T → A → (E true).T) (pn : Int → (E false).T) (d : A) (T : L.T → Tree (Bl E))
  (he : ∀ g, H8 X (C4 X m) f (ofKs L.ks g.1 L.nx) (L.lay.hp g) (L.lay.of g).nx (Ki E) = T g)
  (h : ∀ g z, L.lay.WF g → Y g = some z → (T g).run = some (Z5 mk pn g z)) : Ax X.P f (Gr probe L E (Vk Y mk pn d)) :=
 R4 hX m hE fun g R hw hf => by
  rw [he]
  obtain ⟨z, hz, hr⟩ := Ant hf
  exact Gz (Tree.sat_run (h g z hw hz) hr) fun x hx _ => hx
namespace St
def nBx (m : GM) : Nat := (gmB m).length
def Aig (m : GM) : Bool := decide ((m.1.size : Int) ≤ As .i64) && (decide ((gmM m).length = nBx m) && (decide ((gmO m).length = nBx m) && decide (nBx m ≤ 8)))
structure OkGM (m : GM) : Prop where
 sz : (m.1.size : Int) ≤ As .i64
 ms : (gmM m).length = nBx m
 os : (gmO m).length = nBx m
 n : nBx m ≤ 8
theorem E3 {m : GM} : Aig m = true ↔ OkGM m := by
 unfold Aig
 simp only [Bool.and_eq_true, decide_eq_true_eq]
 exact ⟨fun h => ⟨h.1, h.2.1, h.2.2.1, h.2.2.2⟩, fun h => ⟨h.sz, h.ms, h.os, h.n⟩⟩
def FL_g (f : Nat) : FLay := { ks := [.p 0 0 0 0], bs := bsG f, nx := 1000 }
def Bgs (f : Nat) : FLay := { ks := [], bs := bsG f, nx := 1000 }
def FE_u (f : Nat) (b : Bool) : FLay := bif b then Bgs f else FN
theorem Hk {f : Nat} (b : Bool) : 1000 ≤ (FE_u f b).nx := by cases b <;> exact Nat.le_refl _
def pnU (f : Nat) (e : Int) : (FE_u f false).T := ((e, ()), ())
def mkU (f : Nat) (x : GB) : (FE_u f true).T := ((), x)
def spG (f : Nat) : List (Nat × (Ac → Nat → List AV → Tree (Out × Ac × Nat))) := [(159, sp_ro f), (113, sp_fl f)]
theorem K5 {P : Program} {f g : Nat} {sp sq : Ac → Nat → List AV → Tree (Out × Ac × Nat)} (h : Plain P f) (k : Ax P f sp) (h2 : Plain P g) (k2 : Ax P g sq) : ∀ p ∈ [(f, sp), (g, sq)], Plain P p.1 ∧ Ax P p.1 p.2 := fun p hp => by
 simp only [List.mem_cons, List.not_mem_nil, or_false] at hp
 rcases hp with rfl | rfl
 ·exact ⟨h, k⟩
 ·exact ⟨h2, k2⟩
theorem G5 {P : Program} {fns : List (Nat × Func)} : ∀ p ∈ fns, ∀ d ∈ A8 (bodyOf p.2), ∀ g, Bn ([] : List ((Nat × Nat) × (St → Tree (XE × St)))) p.1 (keyOf d) = some g → Ae P p.1 d g := fun _ _ _ _ _ h => by simp [Bn] at h
noncomputable def Bgt (f : Nat) : Ctx := Kj Tryz.prog Vj [(57, Tryz.f57)] [] (spG f)
theorem Aef {f : Nat} (h1 : Ax Tryz.prog 159 (sp_ro f)) (h2 : Ax Tryz.prog 113 (sp_fl f)) : CtxOk (Bgt f) := D8 Ab Z4 (fns_cons is_a8 A2) G5 (K5 is_a5.plain h1 is_a6.plain h2)
noncomputable def Anu : Code := (A8 (bodyOf Tryz.f122)).getD 0 .skip
def Aih (f : Nat) : Lay := { keys := [0, 13, 14], ks := [.p 0 0 0 0, .d cI, .d cI], bs := bsG f, n := 80, nx := 2000, marks := [] }
def Bgu (f : Nat) : Lay := { keys := [], ks := [], bs := bsG f, n := 80, nx := 2000, marks := [] }
def Bgv : Lay := { keys := [], ks := [], bs := [], n := 80, nx := 2000, marks := [] }
def Aah (f : Nat) : XE → Lay := fun e => match e with | .panic _ => Bgv | _ => Bgu f
def Ls (l : TCT An) (m : TCT Aj) : TCTs [cPt, cI] := Jd (W64 (m.2.1.1 + (O7 l m.1).2.1)) (W64 (m.2.1.2.1 + (O7 l m.1).2.2.1)) (O7 l m.1).1
def Aai (l : TCT An) (m : TCT Aj) : TCT Aj := (m.1, ((Ls l m).1.1, (Ls l m).1.2.1, ()), m.2.2.1, ())
def Ai (ms : Af) (i : Nat) : TCT Aj := At ms i (Aq Aj)
def gk (x : GB) : Kns := x.2.1.1
def O8 (f : Nat) (x : GB) (n i : Int) (ms : Af) : (Aih f).T := (((), n, i, ()), (gb (gmU x.1 ms (gmO x.1)) (gk x)))
def Anv (f : Nat) (x : GB) (ms : Af) : A1 (Aah f) := ⟨.exit 0, ((), (gb (gmU x.1 ms (gmO x.1)) (gk x)))⟩
def Anw (f : Nat) (e : Int) : A1 (Aah f) := ⟨.panic (.ifc 44 (.int .i64 e)), ((), ())⟩
abbrev TSw (f : Nat) := Tree ((Aih f).T ⊕ A1 (Aah f))
def inT {β : Type} (n : Nat) (i : Int) (k : Tree β) : Tree β := bif decide (Int.toNat i < n) then k else .fail
theorem Aaj {β : Type} {n : Nat} {i : Int} {k : Tree β} (h : 0 ≤ i ∧ i < (n : Int)) : inT n i k = k := by unfold inT; rw [decide_eq_true (by omega)]; rfl
def Anx (f : Nat) (x : GB) (n i : Int) (ms : Af) : TSw f :=
 bif Gh (gmL x.1) (Ai ms (Int.toNat i)).1 != 0 then .leaf (.inr (Anw f (Gh (gmL x.1) (Ai ms (Int.toNat i)).1))) else inT ms.length i (inT ms.length i (
  bif (Ls (gmL x.1) (Ai ms (Int.toNat i))).2.1 != 0 then .leaf (.inr (Anw f 4)) else inT ms.length i (.leaf (.inl (O8 f x n (W64 (i + 1)) (B5 ms (Int.toNat i) (Aai (gmL x.1) (Ai ms (Int.toNat i)))))))))
def szG {β : Type} (m : GM) (k : Tree β) : Tree β := bif decide ((m.1.size : Int) ≤ As .i64) then k else .fail
def Vl (f : Nat) (x : GB) (n i : Int) (ms : Af) : TSw f := bif decide (i < n) then bif Z3 ms (gmO x.1) i then
 bif !C1 ms (gmO x.1) (Int.toNat i) then .leaf (.inl (O8 f x n (W64 (i + 1)) ms)) else bif El (gmW x.1) (gmF x.1) i then .leaf (.inl (O8 f x n (W64 (i + 1)) ms)) else
 inO ms.length i (szG x.1 (Anx f x n i ms)) else .fail else .leaf (.inr (Anv f x ms))
def Any (f : Nat) (g : (Aih f).T) : TSw f := Vl f g.2 g.1.2.1 g.1.2.2.1 (gmM g.2.1)
def fu_sw (f : Nat) (g : (Aih f).T) : Nat := Int.toNat g.1.2.1 + 1
def sm_sw (f : Nat) : St → Tree (XE × St) := A9 (Aih f) (Aah f) (finP 44 .i64 [.exit 0] (Any f) (fu_sw f))
theorem Aeg {f : Nat} (e : XE) : (Aih f).nx ≤ (Aah f e).nx := by cases e <;> exact Nat.le_refl _
theorem B51 : Ae Tryz.prog 122 Anu (sm_sw 67) := Gc (Aef Fw Fx) 7 _ _ _ Aeg _ _ _ _ (fu_sw 67) (fun g => by kernel_rfl)
theorem B52 : Ae Tryz.prog 122 Anu (sm_sw 144) := Gc (Aef Fy Fz) 7 _ _ _ Aeg _ _ _ _ (fu_sw 144) (fun g => by kernel_rfl)
def A5w (m : GM) (i : Nat) (ms : Af) : Af ⊕ Int :=
 bif !C1 ms (gmO m) i || El (gmW m) (gmF m) i then .inl ms else bif Gh (gmL m) (Ai ms i).1 != 0 then .inr (Gh (gmL m) (Ai ms i).1) else
 bif (Ls (gmL m) (Ai ms i)).2.1 != 0 then .inr 4 else .inl (B5 ms i (Aai (gmL m) (Ai ms i)))
def Vm (f : Nat) (x : GB) : Af ⊕ Int → A1 (Aah f)
 | .inl ms => Anv f x ms
 | .inr e => Anw f e
theorem Br {α : Type} : ∀ (l : List α) (i : Nat) (x : α), (B5 l i x).length = l.length
 | [], _, _ => rfl
 | _ :: _, 0, _ => rfl
 | _ :: l, i + 1, x => by simp only [B5, List.length_cons, Br l i x]
theorem Anz {m : GM} {n : Nat} (i : Nat) (s s' : Af) (_ : i < n) (hi : s.length = n) (h : A5w m i s = .inl s') : s'.length = n := by
 unfold A5w at h
 cases h1 : !C1 s (gmO m) i || El (gmW m) (gmF m) i with
 | true => rw [h1] at h; cases h; exact hi
 | false =>
  rw [h1] at h
  cases h2 : Gh (gmL m) (Ai s i).1 != 0 with
  | true => rw [h2] at h; cases h
  | false =>
   rw [h2] at h
   cases h3 : (Ls (gmL m) (Ai s i)).2.1 != 0 with
   | true => rw [h3] at h; cases h
   | false => rw [h3] at h; cases h; rw [Br]; exact hi
theorem A2g {ms : Af} {os : List Bool} {i n : Nat} (h : i < n) (h1 : ms.length = n) (h2 : os.length = n) : Z3 ms os (i : Int) = true := by
 unfold Z3
 exact decide_eq_true (by omega)
theorem Bbf {f : Nat} {x : GB} {ms : Af} (hx : OkGM x.1) (hm : ms.length = nBx x.1) : iter (Any f) (nBx x.1 + 1) (O8 f x (nBx x.1) 0 ms) = some (Vm f x (Ag (A5w x.1) 0 (nBx x.1) ms)) := by
 have hn : (nBx x.1 : Int) ≤ As .i64 := by have := hx.n; show (nBx x.1 : Int) ≤ 9223372036854775807; omega
 refine Ef (nBx x.1) (fun i ms => O8 f x (nBx x.1) i ms) (A5w x.1) (Vm f x) (fun _ ms => ms.length = nBx x.1) (fun i ms hi hl => ?_) Anz (fun ms hl => ?_) (nBx x.1) 0 ms (by omega) hm
 ·show (Vl f (gb (gmU x.1 ms (gmO x.1)) (gk x)) (nBx x.1) (i : Int) ms).run = _
  have e : ∀ y z, O8 f (gb (gmU x.1 ms (gmO x.1)) (gk x)) (nBx x.1) y z = O8 f x (nBx x.1) y z := fun _ _ => rfl
  unfold Vl
  have hin := A2g hi hl hx.os
  show Tree.run (bif decide ((i : Int) < (nBx x.1 : Int)) then bif Z3 ms (gmO x.1) (i : Int) then bif !C1 ms (gmO x.1) i then .leaf (.inl (O8 f x (nBx x.1) (W64 ((i : Int) + 1)) ms)) else bif El (gmW x.1) (gmF x.1) i then .leaf (.inl (O8 f x (nBx x.1) (W64 ((i : Int) + 1)) ms)) else
   inO ms.length i (szG x.1 (Anx f x (nBx x.1) i ms)) else .fail else .leaf (.inr (Anv f x ms)) : TSw f) = _
  have hsz : ∀ k : TSw f, szG x.1 k = k := fun k => by unfold szG; rw [decide_eq_true hx.sz]; rfl
  rw [decide_eq_true (show (i : Int) < (nBx x.1 : Int) by omega), hin, Bp (by omega), hsz, Bs hi hn]
  unfold A5w Anx
  rw [Aaj (by omega), Aaj (by omega), Aaj (by omega), show Int.toNat (i : Int) = i from rfl, Bs hi hn]
  cases C1 ms (gmO x.1) i with
  | false => rfl
  | true =>
   cases El (gmW x.1) (gmF x.1) i with
   | true => rfl
   | false =>
    simp only [Bool.not_true, Bool.or_self, cond_true, cond_false]
    cases Gh (gmL x.1) (Ai ms i).1 != 0 with
    | true => rfl
    | false =>
     simp only [cond_false]
     cases (Ls (gmL x.1) (Ai ms i)).2.1 != 0 <;> rfl
 ·show (Vl f (gb (gmU x.1 ms (gmO x.1)) (gk x)) (nBx x.1) (nBx x.1) ms).run = _
  unfold Vl
  rw [decide_eq_false (show ¬ (nBx x.1 : Int) < (nBx x.1 : Int) by omega)]
  rfl
noncomputable def Bgw (f : Nat) : Ctx := Kj Tryz.prog Vj [(122, Tryz.f122)] [((122, 1), sm_sw f)] (spG f)
theorem Aeh {f : Nat} (h1 : Ax Tryz.prog 159 (sp_ro f)) (h2 : Ax Tryz.prog 113 (sp_fl f)) (hl : Ae Tryz.prog 122 Anu (sm_sw f)) : CtxOk (Bgw f) :=
 D8 Ab Z4 (fns_cons is_a9 A2) (Bg (by kernel_rfl) (by kernel_rfl) hl) (K5 is_a5.plain h1 is_a6.plain h2)
def Ao0 (f : Nat) (x : GB) : Option (A1 (Aah f)) := iter (Any f) (nBx x.1 + 1) (O8 f x (nBx x.1) 0 (gmM x.1))
def T_slw (f : Nat) (x : GB) : Tree (Bl (FE_u f)) := bif isP 44 .i64 (Ao0 f x) then .leaf ⟨false, pnU f (panO 44 .i64 (Ao0 f x)).1⟩ else bif isE (.exit 0) (Ao0 f x) then .leaf ⟨true, ((), (B7 (.exit 0) (Ao0 f x)).2)⟩ else .fail
def Vn (x : GB) : Option (Af ⊕ Int) := bif Aig x.1 then some (Ag (A5w x.1) 0 (nBx x.1) (gmM x.1)) else none
def Aak (f : Nat) (x : GB) (ms : Af) : (FE_u f true).T := mkU f (gb (gmU x.1 ms (gmO x.1)) (gk x))
abbrev sp_slw (f : Nat) : Ac → Nat → List AV → Tree (Out × Ac × Nat) := Gr Jt (FL_g f) (FE_u f) (Vk (fun g : (FL_g f).T => Vn g.2) (fun g => Aak f g.2) (pnU f) [])
theorem Aei {f : Nat} {g : (FL_g f).T} {z : Af ⊕ Int} (h : Vn g.2 = some z) : (T_slw f g.2).run = some (Z5 (L := FL_g f) (E := FE_u f) (fun g => Aak f g.2) (pnU f) g z) := by
 unfold Vn at h
 cases ho : Aig g.2.1 with
 | false => rw [ho] at h; cases h
 | true =>
  rw [ho] at h
  cases h
  have hy : Ao0 f g.2 = some (Vm f g.2 (Ag (A5w g.2.1) 0 (nBx g.2.1) (gmM g.2.1))) := Bbf (E3.1 ho) (E3.1 ho).ms
  unfold T_slw
  rw [hy]
  cases Ag (A5w g.2.1) 0 (nBx g.2.1) (gmM g.2.1) with
  | inl ms => rfl
  | inr e =>
   have h1 : isP 44 .i64 (some (Vm f g.2 (.inr e))) = true := N5
   have h2 : panO 44 .i64 (some (Vm f g.2 (.inr e))) = ⟨e, ((), ())⟩ := Io
   rw [h1, h2]
   rfl
theorem Ao1 : Ax Tryz.prog 122 (sp_slw 67) := Ju (Aeh Fw Fx B51) 6 Hk _ _ _ _ (fun g => T_slw 67 g.2) (fun g => by kernel_rfl) fun _ _ _ h => Aei h
theorem Ao2 : Ax Tryz.prog 122 (sp_slw 144) := Ju (Aeh Fy Fz B52) 6 Hk _ _ _ _ (fun g => T_slw 144 g.2) (fun g => by kernel_rfl) fun _ _ _ h => Aei h
end St
theorem Av {P : Program} {f : Nat} {fn : Func} {loops : List ((Nat × Nat) × (St → Tree (XE × St)))} (h : A8 (bodyOf fn) = []) : ∀ d ∈ A8 (bodyOf fn), ∀ g, Bn loops f (keyOf d) = some g → Ae P f d g := by
 intro d hd
 rw [h] at hd
 cases hd
theorem Ez {P : Program} {loops : List ((Nat × Nat) × (St → Tree (XE × St)))} : ∀ q ∈ ([] : List (Nat × Func)), ∀ d ∈ A8 (bodyOf q.2), ∀ g, Bn loops q.1 (keyOf d) = some g → Ae P q.1 d g := fun _ h => nomatch h
theorem Ap {P : Program} {f : Nat} {fn : Func} {rest : List (Nat × Func)} {loops : List ((Nat × Nat) × (St → Tree (XE × St)))} (h : ∀ d ∈ A8 (bodyOf fn), ∀ g, Bn loops f (keyOf d) = some g → Ae P f d g)
  (hr : ∀ q ∈ rest, ∀ d ∈ A8 (bodyOf q.2), ∀ g, Bn loops q.1 (keyOf d) = some g → Ae P q.1 d g) : ∀ q ∈ (f, fn) :: rest, ∀ d ∈ A8 (bodyOf q.2), ∀ g, Bn loops q.1 (keyOf d) = some g → Ae P q.1 d g := by
 intro q hq
 rcases List.mem_cons.1 hq with rfl | hq
 ·exact h
 ·exact hr q hq
def B21 (P : Program) (f : Nat) (loops : List ((Nat × Nat) × (St → Tree (XE × St)))) : List Code → Prop
 | [] => True
 | d :: l => (∀ g, Bn loops f (keyOf d) = some g → Ae P f d g) ∧ B21 P f loops l
theorem Fm {P : Program} {f : Nat} {fn : Func} {loops : List ((Nat × Nat) × (St → Tree (XE × St)))} {ds : List Code} (h : A8 (bodyOf fn) = ds) (ha : B21 P f loops ds) : ∀ d ∈ A8 (bodyOf fn), ∀ g, Bn loops f (keyOf d) = some g → Ae P f d g := by
 rw [h]
 clear h
 induction ds with
 | nil => intro d hd; cases hd
 | cons a l ih =>
  intro d hd
  rcases List.mem_cons.1 hd with rfl | hd
  ·exact ha.1
  ·exact ih ha.2 d hd
theorem Ec {P : Program} {f : Nat} {d : Code} {loops : List ((Nat × Nat) × (St → Tree (XE × St)))} {k : Nat} {s : St → Tree (XE × St)} (hk : keyOf d = k) (ha : Bn loops f k = some s) (h : Ae P f d s) : ∀ g, Bn loops f (keyOf d) = some g → Ae P f d g := by
 intro g hg
 rw [hk, ha] at hg
 cases hg
 exact h
theorem A2h {P : Program} {f : Nat} {d : Code} {loops : List ((Nat × Nat) × (St → Tree (XE × St)))} {k : Nat} (hk : keyOf d = k) (ha : Bn loops f k = none) : ∀ g, Bn loops f (keyOf d) = some g → Ae P f d g := by
 intro g hg
 rw [hk, ha] at hg
 cases hg
namespace St
noncomputable def Aej : Code := (A8 (bodyOf Tryz.f123)).getD 0 .skip
def Aii (f : Nat) : Lay := { keys := [0, 12, 13, 14], ks := [.p 0 0 0 0, .d (.sl A4), .d cI, .d cI], bs := bsG f, n := 104, nx := 2000, marks := [] }
def Bgx (f : Nat) : Lay := { keys := [0], ks := [.p 0 0 0 0], bs := bsG f, n := 104, nx := 2000, marks := [] }
def Bbg : Lay := { keys := [], ks := [], bs := [], n := 104, nx := 3000, marks := [] }
def A5x (f : Nat) : XE → Lay := fun e => match e with | .panic _ => Bbg | _ => Bgx f
def Pz (b : TCT A4) (m : TCT Aj) : TCTs [Aj, cI] := Qg (bm b m)
def D9 (bl : List (TCT A4)) (i : Nat) : TCT A4 := At bl i (Aq A4)
def A0f (f : Nat) (x : GB) (bl : List (TCT A4)) (n i : Int) (ms : Af) : (Aii f).T := (((), bl, n, i, ()), (gb (gmU x.1 ms (gmO x.1)) (gk x)))
def Ao3 (f : Nat) (x : GB) (ms : Af) : A1 (A5x f) := ⟨.exit 0, (((), ()), (gb (gmU x.1 ms (gmO x.1)) (gk x)))⟩
def B22 (f : Nat) (e : Int) : A1 (A5x f) := ⟨.panic (.ifc 44 (.int .i64 e)), ((), ())⟩
abbrev TM1 (f : Nat) := Tree ((Aii f).T ⊕ A1 (A5x f))
def Ao4 (f : Nat) (x : GB) (bl : List (TCT A4)) (n i : Int) (ms : Af) : TM1 f := inO ms.length i (bif (Pz (D9 bl (Int.toNat i)) (Ai ms (Int.toNat i))).2.1 != 0 then .leaf (.inr (B22 f (Pz (D9 bl (Int.toNat i)) (Ai ms (Int.toNat i))).2.1)) else
 inO ms.length i (.leaf (.inl (A0f f x bl n (W64 (i + 1)) (B5 ms (Int.toNat i) (Pz (D9 bl (Int.toNat i)) (Ai ms (Int.toNat i))).1)))))
def Aal (f : Nat) (x : GB) (bl : List (TCT A4)) (n i : Int) (ms : Af) : TM1 f := bif decide (i < n) then inN bl.length i (bif Z3 ms (gmO x.1) i then bif C1 ms (gmO x.1) (Int.toNat i) then Ao4 f x bl n i ms else .leaf (.inl (A0f f x bl n (W64 (i + 1)) ms)) else .fail) else .leaf (.inr (Ao3 f x ms))
def Ao5 (f : Nat) (g : (Aii f).T) : TM1 f := Aal f g.2 g.1.2.1 g.1.2.2.1 g.1.2.2.2.1 (gmM g.2.1)
def fu_m1 (f : Nat) (g : (Aii f).T) : Nat := Int.toNat g.1.2.2.1 + 1
def sm_m1 (f : Nat) : St → Tree (XE × St) := A9 (Aii f) (A5x f) (finP 44 .i64 [.exit 0] (Ao5 f) (fu_m1 f))
theorem Aek {f : Nat} (e : XE) : (Aii f).nx ≤ (A5x f e).nx := by cases e <;> first | exact Nat.le_refl _ | exact (by decide : (2000 : Nat) ≤ 3000)
def stE (bl : List (TCT A4)) (os : List Bool) (i : Nat) (ms : Af) : Af ⊕ Int := bif !C1 ms os i then .inl ms else bif (Pz (D9 bl i) (Ai ms i)).2.1 != 0 then .inr (Pz (D9 bl i) (Ai ms i)).2.1 else .inl (B5 ms i (Pz (D9 bl i) (Ai ms i)).1)
def Rj (f : Nat) (x : GB) : Af ⊕ Int → A1 (A5x f)
 | .inl ms => Ao3 f x ms
 | .inr e => B22 f e
theorem Vo {bl : List (TCT A4)} {os : List Bool} {n : Nat} (i : Nat) (s s' : Af) (_ : i < n) (hi : s.length = n) (h : stE bl os i s = .inl s') : s'.length = n := by
 unfold stE at h
 cases h1 : !C1 s os i with
 | true => rw [h1] at h; cases h; exact hi
 | false =>
  rw [h1] at h
  cases h3 : (Pz (D9 bl i) (Ai s i)).2.1 != 0 with
  | true => rw [h3] at h; cases h
  | false => rw [h3] at h; cases h; rw [Br]; exact hi
theorem Bbh {f : Nat} {x : GB} {ms : Af} (hx : OkGM x.1) (hm : ms.length = nBx x.1) : iter (Ao5 f) (nBx x.1 + 1) (A0f f x (gmB x.1) (nBx x.1) 0 ms) = some (Rj f x (Ag (stE (gmB x.1) (gmO x.1)) 0 (nBx x.1) ms)) := by
 have hn : (nBx x.1 : Int) ≤ As .i64 := by have := hx.n; show (nBx x.1 : Int) ≤ 9223372036854775807; omega
 refine Ef (nBx x.1) (fun i ms => A0f f x (gmB x.1) (nBx x.1) i ms) (stE (gmB x.1) (gmO x.1)) (Rj f x) (fun _ ms => ms.length = nBx x.1) (fun i ms hi hl => ?_) Vo (fun ms hl => ?_) (nBx x.1) 0 ms (by omega) hm
 ·show Tree.run (bif decide ((i : Int) < (nBx x.1 : Int)) then inN (nBx x.1) i (bif Z3 ms (gmO x.1) i then bif C1 ms (gmO x.1) i then Ao4 f x (gmB x.1) (nBx x.1) i ms else .leaf (.inl (A0f f x (gmB x.1) (nBx x.1) (W64 ((i : Int) + 1)) ms)) else .fail) else .leaf (.inr (Ao3 f x ms)) : TM1 f) = _
  rw [decide_eq_true (show (i : Int) < (nBx x.1 : Int) by omega), Ci (by omega), A2g hi hl hx.os, Bs hi hn]
  unfold stE Ao4
  rw [Bp (by omega), Bp (by omega), show Int.toNat (i : Int) = i from rfl, Bs hi hn]
  cases C1 ms (gmO x.1) i with
  | false => rfl
  | true =>
   simp only [Bool.not_true, cond_true, cond_false]
   cases (Pz (D9 (gmB x.1) i) (Ai ms i)).2.1 != 0 <;> rfl
 ·show (Aal f (gb (gmU x.1 ms (gmO x.1)) (gk x)) (gmB x.1) (nBx x.1) (nBx x.1) ms).run = _
  unfold Aal
  rw [decide_eq_false (show ¬ (nBx x.1 : Int) < (nBx x.1 : Int) by omega)]
  rfl
noncomputable def Ael : Code := (A8 (bodyOf Tryz.f123)).getD 1 .skip
def Aij (f : Nat) : Lay := { keys := [0, 52, 53], ks := [.p 0 0 0 0, .d cI, .d cI], bs := bsG f, n := 104, nx := 3000, marks := [] }
def Bgy (f : Nat) : Lay := { keys := [], ks := [], bs := bsG f, n := 104, nx := 3000, marks := [] }
def Aam (f : Nat) : XE → Lay := fun e => match e with | .panic _ => Bbg | _ => Bgy f
abbrev S2 : Type := Af × List Bool × Kns
def kn (t s k b o : Int) : TCT cKn := (t, s, k, b, o, ())
def B53 (m : TCT Aj) : TCT Aj := (m.1, (0, 0, ()), m.2.2.1, ())
def A0g (f : Nat) (x : GB) (n i : Int) (s : S2) : (Aij f).T := (((), n, i, ()), (gb (gmU x.1 s.1 s.2.1) s.2.2))
def Ao6 (f : Nat) (x : GB) (s : S2) : A1 (Aam f) := ⟨.exit 2, ((), (gb (gmU x.1 s.1 s.2.1) s.2.2))⟩
abbrev TM2 (f : Nat) := Tree ((Aij f).T ⊕ A1 (Aam f))
def Tt {β : Type} (ks : Kns) (k : TCT cKn) (t : Kns → Tree β) : Tree β := bif Ex ks [k] 40 then t (ks ++ [k]) else .fail
def Vp (f : Nat) (x : GB) (n i : Int) (ms : Af) (os : List Bool) (ks : Kns) : TM2 f := bif decide (i < n) then inO os.length i (bif !At os (Int.toNat i) (Aq .b) then inO ms.length i (
 bif !onB (gmL x.1) (Ai ms (Int.toNat i)).1 then inO os.length i (inO ms.length i (Tt ks (kn (gmT x.1) (gmS x.1) 2 i 0) fun ks' => .leaf (.inl (A0g f x n (W64 (i + 1)) (B5 ms (Int.toNat i) (B53 (Ai ms (Int.toNat i))), B5 os (Int.toNat i) true, ks')))))
 else .leaf (.inl (A0g f x n (W64 (i + 1)) (ms, os, ks)))) else .leaf (.inl (A0g f x n (W64 (i + 1)) (ms, os, ks)))) else .leaf (.inr (Ao6 f x (ms, os, ks)))
def Ao7 (f : Nat) (g : (Aij f).T) : TM2 f := Vp f g.2 g.1.2.1 g.1.2.2.1 (gmM g.2.1) (gmO g.2.1) (gk g.2)
def fu_m2 (f : Nat) (g : (Aij f).T) : Nat := Int.toNat g.1.2.1 + 1
def sm_m2 (f : Nat) : St → Tree (XE × St) := A9 (Aij f) (Aam f) (Bu [.exit 2] (Ao7 f) (fu_m2 f))
theorem Aem {f : Nat} (e : XE) : (Aij f).nx ≤ (Aam f e).nx := by cases e <;> exact Nat.le_refl _
noncomputable def Bgz (f : Nat) (c : Nat × Func) : Ctx := Kj Tryz.prog Vj [(57, Tryz.f57), (115, Tryz.f115), c] [] (spG f)
theorem F2 {f : Nat} {c : Nat × Func} (hc : FnIs Tryz.prog c) (h1 : Ax Tryz.prog 159 (sp_ro f)) (h2 : Ax Tryz.prog 113 (sp_fl f)) : CtxOk (Bgz f c) := D8 Ab Z4 (fns_cons is_a8 (fns_cons is_a7 (fns_cons hc A2))) G5 (K5 is_a5.plain h1 is_a6.plain h2)
theorem B54 : Ae Tryz.prog 123 Aej (sm_m1 67) := Gc (F2 is_be Fw Fx) 7 _ _ _ Aek _ _ _ _ (fu_m1 67) (fun g => by kernel_rfl)
theorem B55 : Ae Tryz.prog 123 Aej (sm_m1 144) := Gc (F2 is_bf Fy Fz) 7 _ _ _ Aek _ _ _ _ (fu_m1 144) (fun g => by kernel_rfl)
theorem B56 : Ae Tryz.prog 123 Ael (sm_m2 67) := Aw (F2 is_be Fw Fx) 7 _ _ _ Aem _ _ (fu_m2 67) (fun g => by kernel_rfl)
theorem B57 : Ae Tryz.prog 123 Ael (sm_m2 144) := Aw (F2 is_bf Fy Fz) 7 _ _ _ Aem _ _ (fu_m2 144) (fun g => by kernel_rfl)
def lvE (l : TCT An) (t st : Int) (i : Nat) (s : S2) : S2 ⊕ Int := bif !At s.2.1 i (Aq .b) then bif !onB l (Ai s.1 i).1 then .inl (B5 s.1 i (B53 (Ai s.1 i)), B5 s.2.1 i true, s.2.2 ++ [kn t st 2 i 0]) else .inl s else .inl s
def Aan (f : Nat) (x : GB) : S2 ⊕ Int → A1 (Aam f)
 | .inl s => Ao6 f x s
 | .inr _ => Ao6 f x ([], [], [])
structure Inv2 (n k : Nat) (i : Nat) (s : S2) : Prop where
 m : s.1.length = n
 o : s.2.1.length = n
 k : s.2.2.length ≤ k + i
theorem A2i {l : TCT An} {t st : Int} {n k : Nat} (i : Nat) (s s' : S2) (_ : i < n) (hi : Inv2 n k i s) (h : lvE l t st i s = .inl s') : Inv2 n k (i + 1) s' := by
 unfold lvE at h
 have hk := hi.k
 cases h1 : !At s.2.1 i (Aq .b) with
 | false => rw [h1] at h; cases h; exact ⟨hi.m, hi.o, by omega⟩
 | true =>
  rw [h1] at h
  cases h3 : !onB l (Ai s.1 i).1 with
  | false => rw [h3] at h; cases h; exact ⟨hi.m, hi.o, by omega⟩
  | true => rw [h3] at h; cases h; exact ⟨by rw [Br]; exact hi.m, by rw [Br]; exact hi.o, by simp; omega⟩
theorem Bbi {f : Nat} {x : GB} {s : S2} {n k : Nat} (hn8 : n ≤ 8) (hk : k ≤ 900000) (hs : Inv2 n k 0 s) : iter (Ao7 f) (n + 1) (A0g f x n 0 s) = some (Aan f x (Ag (lvE (gmL x.1) (gmT x.1) (gmS x.1)) 0 n s)) := by
 have hn : (n : Int) ≤ As .i64 := by show (n : Int) ≤ 9223372036854775807; omega
 refine Ef n (fun i s => A0g f x n i s) (lvE (gmL x.1) (gmT x.1) (gmS x.1)) (Aan f x) (Inv2 n k) (fun i s hi hl => ?_) A2i (fun s hl => ?_) n 0 s (by omega) hs
 ·show (Vp f (gb (gmU x.1 s.1 s.2.1) s.2.2) n i s.1 s.2.1 s.2.2).run = _
  unfold Vp lvE Tt
  have h1 := hl.m
  have h2 := hl.o
  have h3 := hl.k
  rw [decide_eq_true (show (i : Int) < (n : Int) by omega), Bp (by omega), Bp (by omega), Bp (by omega), Bp (by omega), show Int.toNat (i : Int) = i from rfl, Bs hi hn, Gi (by simp; omega) (by decide)]
  cases At s.2.1 i (Aq .b) with
  | true => rfl
  | false =>
   show (bif !onB (gmL x.1) (Ai s.1 i).1 then _ else _ : TM2 f).run = _
   simp only [Bool.not_false, cond_true]
   cases onB (gmL x.1) (Ai s.1 i).1 <;> rfl
 ·show (Vp f (gb (gmU x.1 s.1 s.2.1) s.2.2) n n s.1 s.2.1 s.2.2).run = _
  unfold Vp
  rw [decide_eq_false (show ¬ (n : Int) < (n : Int) by omega)]
  rfl
end St
theorem Na {S B : Type} {f : Nat → S → S ⊕ B} (h : ∀ i s, ∃ s', f i s = .inl s') : ∀ (k i : Nat) (s : S), ∃ s', Ag f i k s = .inl s'
 | 0, _, s => ⟨s, rfl⟩
 | k + 1, i, s => by
  obtain ⟨s', hs⟩ := h i s
  unfold Ag
  rw [hs]
  exact Na h k (i + 1) s'
namespace St
theorem A2j {l : TCT An} {t st : Int} (i : Nat) (s : S2) : ∃ s', lvE l t st i s = .inl s' := by
 unfold lvE
 cases !At s.2.1 i (Aq .b) with
 | false => exact ⟨_, rfl⟩
 | true => cases !onB l (Ai s.1 i).1 <;> exact ⟨_, rfl⟩
noncomputable def Bh0 (f : Nat) : Ctx := Kj Tryz.prog Vj [(123, Tryz.f123)] [((123, 1), sm_m1 f), ((123, 9), sm_m2 f)] (spG f)
theorem Aen {f : Nat} (h1 : Ax Tryz.prog 159 (sp_ro f)) (h2 : Ax Tryz.prog 113 (sp_fl f)) (hl : Ae Tryz.prog 123 Aej (sm_m1 f)) (hm : Ae Tryz.prog 123 Ael (sm_m2 f)) : CtxOk (Bh0 f) :=
 D8 Ab Z4 (fns_cons is_ba A2) (Ap (Fm (ds := [Aej, Ael]) (by kernel_rfl) ⟨Ec (k := 1) (by kernel_rfl) rfl hl, Ec (k := 9) (by kernel_rfl) rfl hm, trivial⟩) Ez) (K5 is_a5.plain h1 is_a6.plain h2)
def mvF (bl : List (TCT A4)) (l : TCT An) (t st : Int) (n : Nat) (s : S2) : S2 ⊕ Int := match Ag (stE bl s.2.1) 0 n s.1 with
 | .inl ms => Ag (lvE l t st) 0 n (ms, s.2.1, s.2.2)
 | .inr e => .inr e
def gs (x : GB) : S2 := (gmM x.1, gmO x.1, gk x)
def Bbj (f : Nat) (x : GB) : Option (A1 (A5x f)) := iter (Ao5 f) (nBx x.1 + 1) (A0f f x (gmB x.1) (nBx x.1) 0 (gmM x.1))
def B58 (f : Nat) (x : GB) : Option (A1 (Aam f)) := iter (Ao7 f) (nBx x.1 + 1) (A0g f x (nBx x.1) 0 (gs x))
abbrev TU (f : Nat) := Tree (Bl (FE_u f))
def B23 (f : Nat) (y : Option (A1 (Aam f))) : TU f := bif isE (.exit 2) y then .leaf ⟨true, ((), (B7 (.exit 2) y).2)⟩ else .fail
def Ao8 (f : Nat) (y : Option (A1 (A5x f))) : TU f := bif isP 44 .i64 y then .leaf ⟨false, pnU f (panO 44 .i64 y).1⟩ else bif isE (.exit 0) y then B23 f (B58 f (B7 (.exit 0) y).2) else .fail
def T_mv (f : Nat) (x : GB) : TU f := Ao8 f (Bbj f x)
def Ou (x : GB) : Bool := Aig x.1 && decide ((gk x).length ≤ 900000)
def A5y (x : GB) : Option (S2 ⊕ Int) := bif Ou x then some (mvF (gmB x.1) (gmL x.1) (gmT x.1) (gmS x.1) (nBx x.1) (gs x)) else none
def Ao9 (f : Nat) (x : GB) (s : S2) : (FE_u f true).T := mkU f (gb (gmU x.1 s.1 s.2.1) s.2.2)
abbrev sp_mv (f : Nat) : Ac → Nat → List AV → Tree (Out × Ac × Nat) := Gr Jt (FL_g f) (FE_u f) (Vk (fun g : (FL_g f).T => A5y g.2) (fun g => Ao9 f g.2) (pnU f) ([], [], []))
theorem Vq {x : GB} (h : Ou x = true) : OkGM x.1 ∧ (gk x).length ≤ 900000 := by
 unfold Ou at h
 simp only [Bool.and_eq_true, decide_eq_true_eq] at h
 exact ⟨E3.1 h.1, h.2⟩
theorem Aoa {f : Nat} {g : (FL_g f).T} {z : S2 ⊕ Int} (h : A5y g.2 = some z) : (T_mv f g.2).run = some (Z5 (L := FL_g f) (E := FE_u f) (fun g => Ao9 f g.2) (pnU f) g z) := by
 unfold A5y at h
 cases ho : Ou g.2 with
 | false => rw [ho] at h; cases h
 | true =>
  rw [ho] at h
  cases h
  obtain ⟨hg, hk⟩ := Vq ho
  have hy : Bbj f g.2 = some (Rj f g.2 (Ag (stE (gmB g.2.1) (gmO g.2.1)) 0 (nBx g.2.1) (gmM g.2.1))) := Bbh hg hg.ms
  unfold T_mv mvF
  rw [hy]
  show (Ao8 f (some (Rj f g.2 (Ag (stE (gmB g.2.1) (gmO g.2.1)) 0 (nBx g.2.1) (gmM g.2.1))))).run = some (Z5 (L := FL_g f) (E := FE_u f) (fun g => Ao9 f g.2) (pnU f) g (match Ag (stE (gmB g.2.1) (gmO g.2.1)) 0 (nBx g.2.1) (gmM g.2.1) with
   | .inl ms => Ag (lvE (gmL g.2.1) (gmT g.2.1) (gmS g.2.1)) 0 (nBx g.2.1) (ms, gmO g.2.1, gk g.2)
   | .inr e => .inr e))
  cases h1 : Ag (stE (gmB g.2.1) (gmO g.2.1)) 0 (nBx g.2.1) (gmM g.2.1) with
  | inr e =>
   have h1 : isP 44 .i64 (some (Rj f g.2 (.inr e))) = true := N5
   have h2 : panO 44 .i64 (some (Rj f g.2 (.inr e))) = ⟨e, ((), ())⟩ := Io
   unfold Ao8
   rw [h1, h2]
   rfl
  | inl ms =>
   have hms : ms.length = nBx g.2.1 := B8 (n := nBx g.2.1) (Inv := fun _ (s : Af) => s.length = nBx g.2.1) Vo (nBx g.2.1) 0 _ _ (by omega) hg.ms h1
   have hz : B58 f (gb (gmU g.2.1 ms (gmO g.2.1)) (gk g.2)) = some (Aan f (gb (gmU g.2.1 ms (gmO g.2.1)) (gk g.2)) (Ag (lvE (gmL g.2.1) (gmT g.2.1) (gmS g.2.1)) 0 (nBx g.2.1) (ms, gmO g.2.1, gk g.2))) :=
    Bbi (n := nBx g.2.1) (x := gb (gmU g.2.1 ms (gmO g.2.1)) (gk g.2)) (s := (ms, gmO g.2.1, gk g.2)) (k := (gk g.2).length) hg.n hk ⟨hms, hg.os, by simp⟩
   show (B23 f (B58 f (gb (gmU g.2.1 ms (gmO g.2.1)) (gk g.2)))).run = some (Z5 (L := FL_g f) (E := FE_u f) (fun g => Ao9 f g.2) (pnU f) g (Ag (lvE (gmL g.2.1) (gmT g.2.1) (gmS g.2.1)) 0 (nBx g.2.1) (ms, gmO g.2.1, gk g.2)))
   rw [hz]
   obtain ⟨s', hs'⟩ := Na (A2j (l := gmL g.2.1) (t := gmT g.2.1) (st := gmS g.2.1)) (nBx g.2.1) 0 (ms, gmO g.2.1, gk g.2)
   rw [hs']
   rfl
theorem Awx : Ax Tryz.prog 123 (sp_mv 67) := Ju (Aen Fw Fx B54 B56) 6 Hk _ _ _ _ (fun g => T_mv 67 g.2) (fun g => by kernel_rfl) fun _ _ _ h => Aoa h
theorem Awy : Ax Tryz.prog 123 (sp_mv 144) := Ju (Aen Fy Fz B55 B57) 6 Hk _ _ _ _ (fun g => T_mv 144 g.2) (fun g => by kernel_rfl) fun _ _ _ h => Aoa h
end St
def Z6 (n : Nat) (p : TCT Eg) : Prop := 0 ≤ p.1 ∧ p.1 < p.2.1 ∧ p.2.1 < (n : Int)
theorem Aob {l : List (TCT A4)} {re dr : Int} {i k n : Nat} {s s' : SS} (h : Ej l re dr i k s = some s') (hik : i < k) (hk : k < n) (hs : ∀ p ∈ s.2, Z6 n p) : ∀ p ∈ s'.2, Z6 n p := by
 unfold Ej at h
 cases h1 : (Bw (bAt l s.1 i) (bAt l s.1 k) re dr).2.2.1 == 0 with
 | true =>
  rw [h1] at h
  simp only [cond_true, Option.some.injEq] at h
  subst h
  intro p hp
  rcases List.mem_append.1 hp with hp | hp
  ·exact hs p hp
  ·rw [List.mem_singleton] at hp
   subst hp
   exact ⟨Int.natCast_nonneg i, Int.ofNat_lt.2 hik, Int.ofNat_lt.2 hk⟩
 | false =>
  rw [h1, cond_false] at h
  cases h2 : (Bw (bAt l s.1 i) (bAt l s.1 k) re dr).2.2.1 == 4 with
  | true => rw [h2] at h; simp at h
  | false => rw [h2] at h; simp only [cond_false, Option.some.injEq] at h; subst h; exact hs
theorem Aoc {l : List (TCT A4)} {re dr : Int} {i n : Nat} : ∀ (f k : Nat) (s s' : SS), inR l re dr i f k s = some s' → i < k → k + f ≤ n → (∀ p ∈ s.2, Z6 n p) → ∀ p ∈ s'.2, Z6 n p
 | 0, k, s, s', h, _, _, hs => by rw [inR, Option.some.injEq] at h; subst h; exact hs
 | f + 1, k, s, s', h, hik, hk, hs => by
  rw [inR] at h
  cases h1 : Ej l re dr i k s with
  | none => rw [h1] at h; simp at h
  | some s1 =>
   rw [h1, Option.bind_some] at h
   exact Aoc f (k + 1) s1 s' h (by omega) (by omega) (Aob h1 hik (by omega) hs)
theorem Aeo {l : List (TCT A4)} {re dr : Int} : ∀ (f i : Nat) (s s' : SS), Fo l re dr f i s = some s' → i + f = l.length → (∀ p ∈ s.2, Z6 l.length p) → (∀ p ∈ s'.2, Z6 l.length p) ∧ s'.1.length = s.1.length ∧ s'.2.length ≤ s.2.length + f * l.length
 | 0, i, s, s', h, _, hs => by rw [Rt, Option.some.injEq] at h; subst h; exact ⟨hs, rfl, by omega⟩
 | f + 1, i, s, s', h, hi, hs => by
  rw [K6] at h
  cases h1 : inR l re dr i (l.length - (i + 1)) (i + 1) s with
  | none => rw [h1] at h; simp at h
  | some s1 =>
   rw [h1, Option.bind_some] at h
   have a := A34 _ _ _ _ h1
   have b := Aeo f (i + 1) s1 s' h (by omega) (Aoc _ _ _ _ h1 (by omega) (by omega) hs)
   refine ⟨b.1, b.2.1.trans a.1, ?_⟩
   have e : (f + 1) * l.length = f * l.length + l.length := Nat.succ_mul f l.length
   omega
theorem Aik {l : List (TCT A4)} {s : List (TCT Aj)} {re dr : Int} (h : (C3 l s re dr).2.2.1 = 0) (hl : l.length ≤ 8) : (C3 l s re dr).1.length = s.length ∧ (C3 l s re dr).2.1.length ≤ 64 ∧ ∀ p ∈ (C3 l s re dr).2.1, Z6 l.length p := by
 unfold C3 at h ⊢
 cases h1 : J3 l s != 0 with
 | true => rw [h1, cond_true] at h; exact absurd h (bne_iff_ne.1 h1)
 | false =>
  rw [h1, cond_false] at h
  simp only [cond_false]
  cases h2 : !Hr re dr with
  | true => rw [h2] at h; cases h
  | false =>
   rw [h2, cond_false] at h
   simp only [cond_false]
   cases h3 : Fo l re dr l.length 0 (s, []) with
   | none => rw [h3] at h; cases h
   | some s' =>
    have a := Aeo _ _ _ _ h3 (by omega) (fun p hp => nomatch hp)
    refine ⟨a.2.1, ?_, a.1⟩
    have b : s'.2.length ≤ 0 + l.length * l.length := a.2.2
    have c : l.length * l.length ≤ 8 * 8 := Nat.mul_le_mul hl hl
    show s'.2.length ≤ 64
    omega
def unE {S : Type} : S ⊕ Empty → S
 | .inl s => s
 | .inr e => nomatch e
theorem Rk {S : Type} (x : S ⊕ Empty) : x = .inl (unE x) := by
 cases x with
 | inl s => rfl
 | inr e => exact nomatch e
namespace St
abbrev kI : SK := .o 3 cI
abbrev kBa : SK := .o 117 A4
abbrev kMo : SK := .o 62 Aj
noncomputable def Aep : Code := (A8 (bodyOf Tryz.f58)).getD 0 .skip
noncomputable def Aeq : Code := (A8 (bodyOf Tryz.f58)).getD 1 .skip
noncomputable def Aer : Code := (A8 (bodyOf Tryz.f58)).getD 2 .skip
def Ail (f : Nat) : Lay := { keys := [0, 2, 3, 4, 18, 19, 20], ks := [.p 0 0 0 0, kI, kBa, kMo, .d (.sl A4), .d cI, .d cI], bs := bsG f, n := 113, nx := 2000, marks := [] }
def Bh1 (f : Nat) : Lay := { keys := [0, 2, 3, 4], ks := [.p 0 0 0 0, kI, kBa, kMo], bs := bsG f, n := 113, nx := 2000, marks := [] }
def Aao (f : Nat) : XE → Lay := fun _ => Bh1 f
abbrev GA : Type := List Int × List (TCT A4) × Af
def Q0 (f : Nat) (x : GB) (bl : List (TCT A4)) (n i : Int) (s : GA) : (Ail f).T := (((), s.1, s.2.1, s.2.2, bl, n, i, ()), x)
def A5z (f : Nat) (x : GB) (s : GA) : A1 (Aao f) := ⟨.exit 0, (((), s.1, s.2.1, s.2.2, ()), x)⟩
abbrev TS1 (f : Nat) := Tree ((Ail f).T ⊕ A1 (Aao f))
def ap8 {β : Type} (w : List Int) (i : Int) (k : Tree β) : Tree β := bif Ex w [i] 8 then k else .fail
def Aod {β : Type} (w : List (TCT A4)) (i : TCT A4) (k : Tree β) : Tree β := bif Ex w [i] 16 then k else .fail
def Aoe {β : Type} (w : Af) (i : TCT Aj) (k : Tree β) : Tree β := bif Ex w [i] 48 then k else .fail
theorem Aof {β : Type} {w : List Int} {i : Int} {k : Tree β} (h : w.length ≤ 1000) : ap8 w i k = k := by unfold ap8; rw [Gi (by simp; omega) (by decide)]; rfl
theorem Aes {β : Type} {w : List (TCT A4)} {i : TCT A4} {k : Tree β} (h : w.length ≤ 1000) : Aod w i k = k := by unfold Aod; rw [Gi (by simp; omega) (by decide)]; rfl
theorem Aet {β : Type} {w : Af} {i : TCT Aj} {k : Tree β} (h : w.length ≤ 1000) : Aoe w i k = k := by unfold Aoe; rw [Gi (by simp; omega) (by decide)]; rfl
def ga1 (i : Int) (b : TCT A4) (m : TCT Aj) (s : GA) : GA := (s.1 ++ [i], s.2.1 ++ [b], s.2.2 ++ [m])
def Aap (f : Nat) (x : GB) (bl : List (TCT A4)) (n i : Int) (s : GA) : TS1 f := bif decide (i < n) then inN bl.length i (inO (gmO x.1).length i (
 bif !At (gmO x.1) (Int.toNat i) (Aq .b) then bif !El (gmW x.1) (gmF x.1) i then inO (gmM x.1).length i (ap8 s.1 i (Aod s.2.1 (D9 bl (Int.toNat i)) (Aoe s.2.2 (Ai (gmM x.1) (Int.toNat i))
  (.leaf (.inl (Q0 f x bl n (W64 (i + 1)) (ga1 i (D9 bl (Int.toNat i)) (Ai (gmM x.1) (Int.toNat i)) s)))))))
 else .leaf (.inl (Q0 f x bl n (W64 (i + 1)) s)) else .leaf (.inl (Q0 f x bl n (W64 (i + 1)) s)))) else .leaf (.inr (A5z f x s))
def Aog (f : Nat) (g : (Ail f).T) : TS1 f := Aap f g.2 g.1.2.2.2.2.1 g.1.2.2.2.2.2.1 g.1.2.2.2.2.2.2.1 (g.1.2.1, g.1.2.2.1, g.1.2.2.2.1)
def fu_s1 (f : Nat) (g : (Ail f).T) : Nat := Int.toNat g.1.2.2.2.2.2.1 + 1
def sm_s1 (f : Nat) : St → Tree (XE × St) := A9 (Ail f) (Aao f) (Bu [.exit 0] (Aog f) (fu_s1 f))
theorem Aeu {f : Nat} (e : XE) : (Ail f).nx ≤ (Aao f e).nx := Nat.le_refl _
def gaE (bl : List (TCT A4)) (ms : Af) (os : List Bool) (w fl : Int) (i : Nat) (s : GA) : GA ⊕ Empty := .inl (bif !At os i (Aq .b) && !El w fl i then ga1 i (D9 bl i) (Ai ms i) s else s)
def gaV (bl : List (TCT A4)) (w fl : Int) (n : Nat) (ms : Af) (os : List Bool) : GA := unE (Ag (gaE bl ms os w fl) 0 n ([], [], []))
structure InvG (n i : Nat) (s : GA) : Prop where
 b : s.2.1.length = s.1.length
 m : s.2.2.length = s.1.length
 k : s.1.length ≤ i
 r : ∀ w ∈ s.1, 0 ≤ w ∧ w < (n : Int)
theorem A2k {bl : List (TCT A4)} {ms : Af} {os : List Bool} {w fl : Int} {n : Nat} (i : Nat) (s s' : GA) (hi : i < n) (h : InvG n i s) (h2 : gaE bl ms os w fl i s = .inl s') : InvG n (i + 1) s' := by
 unfold gaE at h2
 have hb := h.b
 have hm := h.m
 have hk := h.k
 cases hc : !At os i (Aq .b) && !El w fl i with
 | false =>
  rw [hc] at h2
  simp only [cond_false, Sum.inl.injEq] at h2
  subst h2
  exact ⟨hb, hm, by omega, h.r⟩
 | true =>
  rw [hc] at h2
  simp only [cond_true, Sum.inl.injEq] at h2
  subst h2
  refine ⟨by simp [ga1, hb], by simp [ga1, hm], by simp [ga1]; omega, fun v hv => ?_⟩
  rcases List.mem_append.1 hv with hv | hv
  ·exact h.r v hv
  ·rw [List.mem_singleton] at hv; subst hv; omega
theorem A2l {bl : List (TCT A4)} {w fl : Int} {n : Nat} {ms : Af} {os : List Bool} : InvG n n (gaV bl w fl n ms os) :=
 B8 (n := n) (Inv := InvG n) A2k n 0 _ _ (by omega) ⟨rfl, rfl, Nat.le_refl _, fun _ h => absurd h List.not_mem_nil⟩ (Rk (Ag (gaE bl ms os w fl) 0 n ([], [], [])))
def B59 (f : Nat) (x : GB) (r : GA ⊕ Empty) : A1 (Aao f) := A5z f x (unE r)
theorem Bbk {f : Nat} {x : GB} (hx : OkGM x.1) : iter (Aog f) (nBx x.1 + 1) (Q0 f x (gmB x.1) (nBx x.1) 0 ([], [], [])) = some (A5z f x (gaV (gmB x.1) (gmW x.1) (gmF x.1) (nBx x.1) (gmM x.1) (gmO x.1))) := by
 have hn8 := hx.n
 have hos := hx.os
 have hms := hx.ms
 have hn : (nBx x.1 : Int) ≤ As .i64 := by show (nBx x.1 : Int) ≤ 9223372036854775807; omega
 refine Ef (nBx x.1) (fun i s => Q0 f x (gmB x.1) (nBx x.1) i s) (gaE (gmB x.1) (gmM x.1) (gmO x.1) (gmW x.1) (gmF x.1)) (B59 f x) (InvG (nBx x.1)) (fun i s hi hl => ?_) A2k (fun s hl => ?_) (nBx x.1) 0 ([], [], []) (by omega) ⟨rfl, rfl, Nat.le_refl _, fun _ h => absurd h List.not_mem_nil⟩
 ·show Tree.run (bif decide ((i : Int) < (nBx x.1 : Int)) then inN (nBx x.1) i (inO (gmO x.1).length i (
   bif !At (gmO x.1) i (Aq .b) then bif !El (gmW x.1) (gmF x.1) i then inO (gmM x.1).length i (ap8 s.1 i (Aod s.2.1 (D9 (gmB x.1) i) (Aoe s.2.2 (Ai (gmM x.1) i)
    (.leaf (.inl (Q0 f x (gmB x.1) (nBx x.1) (W64 (i + 1)) (ga1 i (D9 (gmB x.1) i) (Ai (gmM x.1) i) s)))))))
   else .leaf (.inl (Q0 f x (gmB x.1) (nBx x.1) (W64 (i + 1)) s)) else .leaf (.inl (Q0 f x (gmB x.1) (nBx x.1) (W64 (i + 1)) s)))) else .leaf (.inr (A5z f x s)) : TS1 f) = _
  have h1 := hl.b
  have h2 := hl.m
  have h3 := hl.k
  rw [decide_eq_true (show (i : Int) < (nBx x.1 : Int) by omega), Ci (by omega), Bp (by omega), Bp (by omega), Aof (by omega), Aes (by omega), Aet (by omega), Bs hi hn]
  unfold gaE
  cases At (gmO x.1) i (Aq .b) with
  | true => rfl
  | false => cases El (gmW x.1) (gmF x.1) i <;> rfl
 ·show (Aap f x (gmB x.1) (nBx x.1) (nBx x.1) s).run = _
  unfold Aap
  rw [decide_eq_false (show ¬ (nBx x.1 : Int) < (nBx x.1 : Int) by omega)]
  rfl
def Aim (f : Nat) : Lay := { keys := [0, 2, 4, 7, 75, 76, 77], ks := [.p 0 0 0 0, .d (.sl cI), .d (.sl Aj), .d (.sl Eg), .d (.sl cI), .d cI, .d cI], bs := bsG f, n := 113, nx := 3000, marks := [] }
def Bh2 (f : Nat) : Lay := { keys := [0, 2, 7], ks := [.p 0 0 0 0, .d (.sl cI), .d (.sl Eg)], bs := bsG f, n := 113, nx := 3000, marks := [] }
def Aaq (f : Nat) : XE → Lay := fun _ => Bh2 f
abbrev Prs : Type := List (TCT Eg)
def Aev (f : Nat) (x : GB) (W : List Int) (M : Af) (P : Prs) (W2 : List Int) (n i : Int) (ms : Af) : (Aim f).T := (((), W, M, P, W2, n, i, ()), gb (gmU x.1 ms (gmO x.1)) (gk x))
def Aoh (f : Nat) (x : GB) (W : List Int) (P : Prs) (ms : Af) : A1 (Aaq f) := ⟨.exit 2, (((), W, P, ()), gb (gmU x.1 ms (gmO x.1)) (gk x))⟩
abbrev TS2 (f : Nat) := Tree ((Aim f).T ⊕ A1 (Aaq f))
def Vr (f : Nat) (x : GB) (W : List Int) (M : Af) (P : Prs) (W2 : List Int) (n i : Int) (ms : Af) : TS2 f := bif decide (i < n) then inN W2.length i (inN M.length i (inO ms.length (At W2 (Int.toNat i) (Aq cI)) (
 .leaf (.inl (Aev f x W M P W2 n (W64 (i + 1)) (B5 ms (Int.toNat (At W2 (Int.toNat i) (Aq cI))) (Ai M (Int.toNat i)))))))) else .leaf (.inr (Aoh f x W P ms))
def Aoi (f : Nat) (g : (Aim f).T) : TS2 f := Vr f g.2 g.1.2.1 g.1.2.2.1 g.1.2.2.2.1 g.1.2.2.2.2.1 g.1.2.2.2.2.2.1 g.1.2.2.2.2.2.2.1 (gmM g.2.1)
def fu_s2 (f : Nat) (g : (Aim f).T) : Nat := Int.toNat g.1.2.2.2.2.2.1 + 1
def sm_s2 (f : Nat) : St → Tree (XE × St) := A9 (Aim f) (Aaq f) (Bu [.exit 2] (Aoi f) (fu_s2 f))
theorem Aew {f : Nat} (e : XE) : (Aim f).nx ≤ (Aaq f e).nx := Nat.le_refl _
def scE (W : List Int) (M : Af) (i : Nat) (ms : Af) : Af ⊕ Empty := .inl (B5 ms (Int.toNat (At W i (Aq cI))) (Ai M i))
def scV (W : List Int) (M ms : Af) : Af := unE (Ag (scE W M) 0 W.length ms)
theorem Aar {W : List Int} {M : Af} {n k : Nat} (i : Nat) (s s' : Af) (_ : i < n) (h : s.length = k) (h2 : scE W M i s = .inl s') : s'.length = k := by
 cases h2
 rw [Br]; exact h
theorem Aex {W : List Int} {M ms : Af} : (scV W M ms).length = ms.length :=
 B8 (n := W.length) (Inv := fun _ (s : Af) => s.length = ms.length) Aar W.length 0 ms _ (by omega) rfl (Rk (Ag (scE W M) 0 W.length ms))
def B5a (f : Nat) (x : GB) (W : List Int) (P : Prs) (r : Af ⊕ Empty) : A1 (Aaq f) := Aoh f x W P (unE r)
theorem Bbl {f : Nat} {x : GB} {W : List Int} {M : Af} {P : Prs} {ms : Af} {n : Nat} (hW : ∀ w ∈ W, 0 ≤ w ∧ w < (n : Int)) (hM : M.length = W.length) (hms : ms.length = n) (hl : W.length ≤ 1000) :
  iter (Aoi f) (W.length + 1) (Aev f x W M P W W.length 0 ms) = some (Aoh f x W P (scV W M ms)) := by
 have hn : (W.length : Int) ≤ As .i64 := by show (W.length : Int) ≤ 9223372036854775807; omega
 refine Ef W.length (fun i s => Aev f x W M P W W.length i s) (scE W M) (B5a f x W P) (fun _ s => s.length = n) (fun i s hi hs => ?_) Aar (fun s hs => ?_) W.length 0 ms (by omega) hms
 ·show (Vr f (gb (gmU x.1 s (gmO x.1)) (gk x)) W M P W W.length i s).run = _
  have hw := hW (At W i (Aq cI)) (by rw [E7 hi]; exact List.getElem_mem hi)
  unfold Vr
  rw [decide_eq_true (show (i : Int) < (W.length : Int) by omega), Ci (by omega), Ci (by omega), show Int.toNat (i : Int) = i from rfl, Bp (by omega), Bs hi hn]
  rfl
 ·show (Vr f (gb (gmU x.1 s (gmO x.1)) (gk x)) W M P W W.length W.length s).run = _
  unfold Vr
  rw [decide_eq_false (show ¬ (W.length : Int) < (W.length : Int) by omega)]
  rfl
def Ain (f : Nat) : Lay := { keys := [0, 2, 94, 95, 96], ks := [.p 0 0 0 0, .d (.sl cI), .d (.sl Eg), .d cI, .d cI], bs := bsG f, n := 113, nx := 4000, marks := [] }
def Bh3 (f : Nat) : Lay := { keys := [], ks := [], bs := bsG f, n := 113, nx := 4000, marks := [] }
def Aas (f : Nat) : XE → Lay := fun _ => Bh3 f
def Aey (f : Nat) (x : GB) (W : List Int) (P : Prs) (n i : Int) (ks : Kns) : (Ain f).T := (((), W, P, n, i, ()), gb x.1 ks)
def Aoj (f : Nat) (x : GB) (ks : Kns) : A1 (Aas f) := ⟨.exit 4, ((), gb x.1 ks)⟩
abbrev TS3 (f : Nat) := Tree ((Ain f).T ⊕ A1 (Aas f))
def Rl (P : Prs) (i : Nat) : TCT Eg := At P i (Aq Eg)
def knP (t st : Int) (W : List Int) (p : TCT Eg) : TCT cKn := kn t st 0 (At W (Int.toNat p.1) (Aq cI)) (At W (Int.toNat p.2.1) (Aq cI))
def Vs (f : Nat) (x : GB) (W : List Int) (P : Prs) (n i : Int) (ks : Kns) : TS3 f := bif decide (i < n) then inN P.length i (inN W.length (Rl P (Int.toNat i)).1 (inN W.length (Rl P (Int.toNat i)).2.1 (
 Tt ks (knP (gmT x.1) (gmS x.1) W (Rl P (Int.toNat i))) fun ks' => .leaf (.inl (Aey f x W P n (W64 (i + 1)) ks'))))) else .leaf (.inr (Aoj f x ks))
def Aok (f : Nat) (g : (Ain f).T) : TS3 f := Vs f g.2 g.1.2.1 g.1.2.2.1 g.1.2.2.2.1 g.1.2.2.2.2.1 (gk g.2)
def fu_s3 (f : Nat) (g : (Ain f).T) : Nat := Int.toNat g.1.2.2.2.1 + 1
def sm_s3 (f : Nat) : St → Tree (XE × St) := A9 (Ain f) (Aas f) (Bu [.exit 4] (Aok f) (fu_s3 f))
theorem Aez {f : Nat} (e : XE) : (Ain f).nx ≤ (Aas f e).nx := Nat.le_refl _
def kpE (W : List Int) (P : Prs) (t st : Int) (i : Nat) (ks : Kns) : Kns ⊕ Empty := .inl (ks ++ [knP t st W (Rl P i)])
def kpV (W : List Int) (P : Prs) (t st : Int) (ks : Kns) : Kns := unE (Ag (kpE W P t st) 0 P.length ks)
theorem Aat {W : List Int} {P : Prs} {t st : Int} {n k : Nat} (i : Nat) (s s' : Kns) (_ : i < n) (h : s.length = k + i) (h2 : kpE W P t st i s = .inl s') : s'.length = k + (i + 1) := by
 cases h2
 simp only [List.length_append, List.length_singleton]
 omega
theorem Awz {W : List Int} {P : Prs} {t st : Int} {ks : Kns} : (kpV W P t st ks).length = ks.length + P.length :=
 B8 (n := P.length) (Inv := fun i (s : Kns) => s.length = ks.length + i) Aat P.length 0 ks _ (by omega) rfl (Rk (Ag (kpE W P t st) 0 P.length ks))
def B5b (f : Nat) (x : GB) (r : Kns ⊕ Empty) : A1 (Aas f) := Aoj f x (unE r)
theorem Bbm {f : Nat} {x : GB} {W : List Int} {P : Prs} {ks : Kns} (hP : ∀ p ∈ P, Z6 W.length p) (hk : ks.length ≤ 900000) (hl : P.length ≤ 1000) :
  iter (Aok f) (P.length + 1) (Aey f x W P P.length 0 ks) = some (Aoj f x (kpV W P (gmT x.1) (gmS x.1) ks)) := by
 have hn : (P.length : Int) ≤ As .i64 := by show (P.length : Int) ≤ 9223372036854775807; omega
 refine Ef P.length (fun i s => Aey f x W P P.length i s) (kpE W P (gmT x.1) (gmS x.1)) (B5b f x) (fun i s => s.length = ks.length + i) (fun i s hi hs => ?_) Aat (fun s hs => ?_) P.length 0 ks (by omega) rfl
 ·show (Vs f (gb x.1 s) W P P.length i s).run = _
  have hp := hP (Rl P i) (by unfold Rl; rw [E7 hi]; exact List.getElem_mem hi)
  unfold Vs Tt
  rw [decide_eq_true (show (i : Int) < (P.length : Int) by omega), Ci (by omega), show Int.toNat (i : Int) = i from rfl, Ci ⟨hp.1, Int.lt_trans hp.2.1 hp.2.2⟩, Ci ⟨Int.le_trans hp.1 (Int.le_of_lt hp.2.1), hp.2.2⟩, Gi (by simp; omega) (by decide), Bs hi hn]
  rfl
 ·show (Vs f (gb x.1 s) W P P.length P.length s).run = _
  unfold Vs
  rw [decide_eq_false (show ¬ (P.length : Int) < (P.length : Int) by omega)]
  rfl
theorem B5c : Ae Tryz.prog 58 Aep (sm_s1 67) := Aw (F2 is_be Fw Fx) 7 _ _ _ Aeu _ _ (fu_s1 67) (fun g => by kernel_rfl)
theorem B5d : Ae Tryz.prog 58 Aeq (sm_s2 67) := Aw (F2 is_be Fw Fx) 7 _ _ _ Aew _ _ (fu_s2 67) (fun g => by kernel_rfl)
theorem B5e : Ae Tryz.prog 58 Aer (sm_s3 67) := Aw (F2 is_be Fw Fx) 7 _ _ _ Aez _ _ (fu_s3 67) (fun g => by kernel_rfl)
theorem B5f : Ae Tryz.prog 58 Aep (sm_s1 144) := Aw (F2 is_bf Fy Fz) 7 _ _ _ Aeu _ _ (fu_s1 144) (fun g => by kernel_rfl)
theorem B5g : Ae Tryz.prog 58 Aeq (sm_s2 144) := Aw (F2 is_bf Fy Fz) 7 _ _ _ Aew _ _ (fu_s2 144) (fun g => by kernel_rfl)
theorem B5h : Ae Tryz.prog 58 Aer (sm_s3 144) := Aw (F2 is_bf Fy Fz) 7 _ _ _ Aez _ _ (fu_s3 144) (fun g => by kernel_rfl)
def gmC (m : GM) : TCT D5 := (m.2.2.2.2.2.2.2.2.2.2.2.2.1, m.2.2.2.2.2.2.2.2.2.2.2.2.2.1, ())
noncomputable def A2m (f : Nat) : Ctx := Kj Tryz.prog Vj [(58, Tryz.f58), (57, Tryz.f57)] [((58, 4), sm_s1 f), ((58, 12), sm_s2 f), ((58, 17), sm_s3 f)] (spG f)
theorem Af0 {f : Nat} (h1 : Ax Tryz.prog 159 (sp_ro f)) (h2 : Ax Tryz.prog 113 (sp_fl f)) (l1 : Ae Tryz.prog 58 Aep (sm_s1 f)) (l2 : Ae Tryz.prog 58 Aeq (sm_s2 f)) (l3 : Ae Tryz.prog 58 Aer (sm_s3 f)) : CtxOk (A2m f) :=
 D8 Ab Z4 (fns_cons is_bb (fns_cons is_a8 A2)) (Ap (Fm (ds := [Aep, Aeq, Aer]) (by kernel_rfl) ⟨Ec (k := 4) (by kernel_rfl) rfl l1, Ec (k := 12) (by kernel_rfl) rfl l2, Ec (k := 17) (by kernel_rfl) rfl l3, trivial⟩) (Ap (Av (by kernel_rfl)) Ez)) (K5 is_a5.plain h1 is_a6.plain h2)
def seG (bl : List (TCT A4)) (w fl : Int) (n : Nat) (s : S2) : GA := gaV bl w fl n s.1 s.2.1
def seS (bl : List (TCT A4)) (bc : TCT D5) (w fl : Int) (n : Nat) (s : S2) : Ajb := C3 (seG bl w fl n s).2.1 (seG bl w fl n s).2.2 bc.1 bc.2.1
def seF (bl : List (TCT A4)) (bc : TCT D5) (t st w fl : Int) (n : Nat) (s : S2) : (Af × Kns) ⊕ Int :=
 bif (seS bl bc w fl n s).2.2.1 != 0 then .inr (seS bl bc w fl n s).2.2.1 else .inl (scV (seG bl w fl n s).1 (seS bl bc w fl n s).1 s.1, kpV (seG bl w fl n s).1 (seS bl bc w fl n s).2.1 t st s.2.2)
def B24 (f : Nat) (y : Option (A1 (Aas f))) : TU f := bif isE (.exit 4) y then .leaf ⟨true, ((), (B7 (.exit 4) y).2)⟩ else .fail
def B5i (f : Nat) (x : GB) (W : List Int) (P : Prs) : Option (A1 (Aas f)) := iter (Aok f) (P.length + 1) (Aey f x W P P.length 0 (gk x))
def Bbn (f : Nat) (y : Option (A1 (Aaq f))) : TU f := bif isE (.exit 2) y then B24 f (B5i f (B7 (.exit 2) y).2 (B7 (.exit 2) y).1.2.1 (B7 (.exit 2) y).1.2.2.1) else .fail
def Bbo (f : Nat) (x : GB) (W : List Int) (M : Af) (P : Prs) : Option (A1 (Aaq f)) := iter (Aoi f) (W.length + 1) (Aev f x W M P W W.length 0 (gmM x.1))
def Aau (f : Nat) (x : GB) (W : List Int) (r : Ajb) : TU f := bif r.2.2.1 != 0 then .leaf ⟨false, pnU f r.2.2.1⟩ else Bbn f (Bbo f x W r.1 r.2.1)
def Bbp (f : Nat) (y : Option (A1 (Aao f))) : TU f := bif isE (.exit 0) y then Aau f (B7 (.exit 0) y).2 (B7 (.exit 0) y).1.2.1 (C3 (B7 (.exit 0) y).1.2.2.1 (B7 (.exit 0) y).1.2.2.2.1 (gmC (B7 (.exit 0) y).2.1).1 (gmC (B7 (.exit 0) y).2.1).2.1) else .fail
def Bbq (f : Nat) (x : GB) : Option (A1 (Aao f)) := iter (Aog f) (nBx x.1 + 1) (Q0 f x (gmB x.1) (nBx x.1) 0 ([], [], []))
def T_se (f : Nat) (x : GB) : TU f := Bbp f (Bbq f x)
def A60 (x : GB) : Option ((Af × Kns) ⊕ Int) := bif Ou x then some (seF (gmB x.1) (gmC x.1) (gmT x.1) (gmS x.1) (gmW x.1) (gmF x.1) (nBx x.1) (gs x)) else none
def A61 (f : Nat) (x : GB) (s : Af × Kns) : (FE_u f true).T := mkU f (gb (gmU x.1 s.1 (gmO x.1)) s.2)
abbrev sp_se (f : Nat) : Ac → Nat → List AV → Tree (Out × Ac × Nat) := Gr Jt (FL_g f) (FE_u f) (Vk (fun g : (FL_g f).T => A60 g.2) (fun g => A61 f g.2) (pnU f) ([], []))
theorem Aav {bl : List (TCT A4)} {bc : TCT D5} {w fl : Int} {n : Nat} {s : S2} (hn : n ≤ 8) (h : (seS bl bc w fl n s).2.2.1 = 0) : (seS bl bc w fl n s).1.length = (seG bl w fl n s).1.length ∧ (seS bl bc w fl n s).2.1.length ≤ 64 ∧ ∀ p ∈ (seS bl bc w fl n s).2.1, Z6 (seG bl w fl n s).1.length p := by
 have hg : InvG n n (seG bl w fl n s) := A2l
 have a := Aik (l := (seG bl w fl n s).2.1) (s := (seG bl w fl n s).2.2) (re := bc.1) (dr := bc.2.1) h (by rw [hg.b]; have := hg.k; omega)
 rw [hg.b] at a
 exact ⟨a.1.trans hg.m, a.2.1, a.2.2⟩
theorem Aol {f : Nat} {g : (FL_g f).T} {z : (Af × Kns) ⊕ Int} (h : A60 g.2 = some z) : (T_se f g.2).run = some (Z5 (L := FL_g f) (E := FE_u f) (fun g => A61 f g.2) (pnU f) g z) := by
 unfold A60 at h
 cases ho : Ou g.2 with
 | false => rw [ho] at h; cases h
 | true =>
  rw [ho] at h
  cases h
  obtain ⟨hg, hk⟩ := Vq ho
  unfold T_se
  rw [show Bbq f g.2 = some (A5z f g.2 (seG (gmB g.2.1) (gmW g.2.1) (gmF g.2.1) (nBx g.2.1) (gs g.2))) from Bbk hg]
  show (Aau f g.2 (seG (gmB g.2.1) (gmW g.2.1) (gmF g.2.1) (nBx g.2.1) (gs g.2)).1 (seS (gmB g.2.1) (gmC g.2.1) (gmW g.2.1) (gmF g.2.1) (nBx g.2.1) (gs g.2))).run = _
  unfold seF Aau
  have hn8 := hg.n
  cases he : (seS (gmB g.2.1) (gmC g.2.1) (gmW g.2.1) (gmF g.2.1) (nBx g.2.1) (gs g.2)).2.2.1 != 0 with
  | true => rfl
  | false =>
   have hs := Aav hn8 (bne_eq_false_iff_eq.1 he)
   have hi : InvG (nBx g.2.1) (nBx g.2.1) (seG (gmB g.2.1) (gmW g.2.1) (gmF g.2.1) (nBx g.2.1) (gs g.2)) := A2l
   have hik := hi.k
   simp only [cond_false]
   rw [show Bbo f g.2 (seG (gmB g.2.1) (gmW g.2.1) (gmF g.2.1) (nBx g.2.1) (gs g.2)).1 (seS (gmB g.2.1) (gmC g.2.1) (gmW g.2.1) (gmF g.2.1) (nBx g.2.1) (gs g.2)).1 (seS (gmB g.2.1) (gmC g.2.1) (gmW g.2.1) (gmF g.2.1) (nBx g.2.1) (gs g.2)).2.1 = _ from Bbl hi.r hs.1 hg.ms (by omega)]
   show (B24 f (B5i f (gb (gmU g.2.1 (scV (seG (gmB g.2.1) (gmW g.2.1) (gmF g.2.1) (nBx g.2.1) (gs g.2)).1 (seS (gmB g.2.1) (gmC g.2.1) (gmW g.2.1) (gmF g.2.1) (nBx g.2.1) (gs g.2)).1 (gmM g.2.1)) (gmO g.2.1)) (gk g.2)) (seG (gmB g.2.1) (gmW g.2.1) (gmF g.2.1) (nBx g.2.1) (gs g.2)).1 (seS (gmB g.2.1) (gmC g.2.1) (gmW g.2.1) (gmF g.2.1) (nBx g.2.1) (gs g.2)).2.1)).run = _
   have hs64 := hs.2.1
   rw [show B5i f (gb (gmU g.2.1 (scV (seG (gmB g.2.1) (gmW g.2.1) (gmF g.2.1) (nBx g.2.1) (gs g.2)).1 (seS (gmB g.2.1) (gmC g.2.1) (gmW g.2.1) (gmF g.2.1) (nBx g.2.1) (gs g.2)).1 (gmM g.2.1)) (gmO g.2.1)) (gk g.2)) (seG (gmB g.2.1) (gmW g.2.1) (gmF g.2.1) (nBx g.2.1) (gs g.2)).1 (seS (gmB g.2.1) (gmC g.2.1) (gmW g.2.1) (gmF g.2.1) (nBx g.2.1) (gs g.2)).2.1 = _ from Bbm (x := gb (gmU g.2.1 (scV (seG (gmB g.2.1) (gmW g.2.1) (gmF g.2.1) (nBx g.2.1) (gs g.2)).1 (seS (gmB g.2.1) (gmC g.2.1) (gmW g.2.1) (gmF g.2.1) (nBx g.2.1) (gs g.2)).1 (gmM g.2.1)) (gmO g.2.1)) (gk g.2)) hs.2.2 hk (by omega)]
   rfl
theorem Ax0 : Ax Tryz.prog 58 (sp_se 67) := Ju (Af0 Fw Fx B5c B5d B5e) 6 Hk _ _ _ _ (fun g => T_se 67 g.2) (fun g => by kernel_rfl) fun _ _ _ h => Aol h
theorem Ax1 : Ax Tryz.prog 58 (sp_se 144) := Ju (Af0 Fy Fz B5f B5g B5h) 6 Hk _ _ _ _ (fun g => T_se 144 g.2) (fun g => by kernel_rfl) fun _ _ _ h => Aol h
noncomputable def A0h : Code := (A8 (bodyOf Tryz.f124)).getD 0 .skip
noncomputable def Vt : Code := (A8 (bodyOf Tryz.f124)).getD 1 .skip
abbrev kBb : List SK := [.d cI, .d cI]
def Aaw (f : Nat) : Lay := { keys := [0, 2, 3, 13, 14, 15, 24, 25, 26], ks := [.p 0 0 0 0, .d cI, .p 2002 0 0 0, .d (.sl A4), .d cI, .d cI, .d (.sl Al), .d cI, .d cI], bs := [(0, 99, kGm f), (1, 43, [.o 57 cKn]), (2002, 117, kBb)], n := 81, nx := 3000, marks := [] }
def Bbr (f : Nat) : Lay := { keys := [0, 13, 14, 15], ks := [.p 0 0 0 0, .d (.sl A4), .d cI, .d cI], bs := bsG f, n := 81, nx := 3000, marks := [] }
def Bbs : Lay := { keys := [], ks := [], bs := [], n := 81, nx := 4000, marks := [] }
def A62 (f : Nat) : XE → Lay := fun e => match e with | .panic _ => Bbs | _ => Bbr f
def Aax (f : Nat) : Lay := { keys := [0, 13, 14, 15], ks := [.p 0 0 0 0, .d (.sl A4), .d cI, .d cI], bs := bsG f, n := 81, nx := 2000, marks := [] }
def Bh4 (f : Nat) : Lay := { keys := [], ks := [], bs := bsG f, n := 81, nx := 2000, marks := [] }
def Aay (f : Nat) : XE → Lay := fun e => match e with | .panic _ => Bbs | _ => Bh4 f
theorem Af1 {f : Nat} (e : XE) : (Aaw f).nx ≤ (A62 f e).nx := by cases e <;> first | exact Nat.le_refl _ | exact (by decide : (3000 : Nat) ≤ 4000)
theorem Af2 {f : Nat} (e : XE) : (Aax f).nx ≤ (Aay f e).nx := by cases e <;> first | exact Nat.le_refl _ | exact (by decide : (2000 : Nat) ≤ 4000)
abbrev Dss : Type := List (TCT Al)
abbrev MK : Type := Af × Kns
def C9 (ps : Dss) (i : Nat) : TCT Al := At ps i (Aq Al)
def bmV (b : TCT A4) (m : TCT Aj) (d : TCT Al) (c : TCT D5) : TCTs [Aj, cI] := A8a (bm b m) d.1.1 d.1.2.1 d.2.1 c.1 c.2.1
structure Cb where
 i : Int
 b : TCT A4
 bl : List (TCT A4)
 n1 : Int
 i1 : Int
 ps : Dss
def gmb (m : GM) (k : Kns) (b : TCT A4) : GM × SKTs [.o 0 cKn] × SKTs kBb × Unit := (m, (k, ()), b, ())
def A63 (f : Nat) (x : GB) (c : Cb) (n k : Int) (s : MK) : (Aaw f).T := (((), c.i, (), c.bl, c.n1, c.i1, c.ps, n, k, ()), gmb (gmU x.1 s.1 (gmO x.1)) s.2 c.b)
def Vu (f : Nat) (x : GB) (c : Cb) (s : MK) : A1 (A62 f) := ⟨.exit 2, (((), c.bl, c.n1, c.i1, ()), gb (gmU x.1 s.1 (gmO x.1)) s.2)⟩
def A64 (f : Nat) (e : Int) : A1 (A62 f) := ⟨.panic (.ifc 44 (.int .i64 e)), ((), ())⟩
abbrev TB2 (f : Nat) := Tree ((Aaw f).T ⊕ A1 (A62 f))
def Aaz (f : Nat) (x : GB) (c : Cb) (n k : Int) (s : MK) (r : TCTs [Aj, cI]) : TB2 f :=
 bif r.2.1 == 0 then inO s.1.length c.i (Tt s.2 (kn (gmT x.1) (gmS x.1) 1 c.i k) fun ks => .leaf (.inl (A63 f x c n (W64 (k + 1)) (B5 s.1 (Int.toNat c.i) r.1, ks))))
 else bif r.2.1 == 4 then .leaf (.inr (A64 f r.2.1)) else .leaf (.inl (A63 f x c n (W64 (k + 1)) s))
def Vv (f : Nat) (x : GB) (c : Cb) (n k : Int) (s : MK) : TB2 f := bif decide (k < n) then inN c.ps.length k (bif Z3 s.1 (gmO x.1) c.i then
 bif !C1 s.1 (gmO x.1) (Int.toNat c.i) then .leaf (.inr (Vu f x c s)) else bif El (gmW x.1) (gmF x.1) c.i then .leaf (.inr (Vu f x c s)) else
 inO s.1.length c.i (Aaz f x c n k s (bmV c.b (Ai s.1 (Int.toNat c.i)) (C9 c.ps (Int.toNat k)) (gmC x.1))) else .fail) else .leaf (.inr (Vu f x c s))
def cb (f : Nat) (g : (Aaw f).T) : Cb := ⟨g.1.2.1, g.2.2.2.1, g.1.2.2.2.1, g.1.2.2.2.2.1, g.1.2.2.2.2.2.1, g.1.2.2.2.2.2.2.1⟩
def Aom (f : Nat) (g : (Aaw f).T) : TB2 f := Vv f (gb g.2.1 g.2.2.1.1) (cb f g) g.1.2.2.2.2.2.2.2.1 g.1.2.2.2.2.2.2.2.2.1 (gmM g.2.1, g.2.2.1.1)
def fu_b2 (f : Nat) (g : (Aaw f).T) : Nat := Int.toNat g.1.2.2.2.2.2.2.2.1 + 1
def sm_b2 (f : Nat) : St → Tree (XE × St) := A9 (Aaw f) (A62 f) (finP 44 .i64 [.exit 2] (Aom f) (fu_b2 f))
def bpE (b : TCT A4) (c : TCT D5) (ps : Dss) (os : List Bool) (w fl t st : Int) (i : Nat) (k : Nat) (s : MK) : MK ⊕ (MK ⊕ Int) :=
 bif !C1 s.1 os i || El w fl i then .inr (.inl s) else
 bif (bmV b (Ai s.1 i) (C9 ps k) c).2.1 == 0 then .inl (B5 s.1 i (bmV b (Ai s.1 i) (C9 ps k) c).1, s.2 ++ [kn t st 1 i k]) else
 bif (bmV b (Ai s.1 i) (C9 ps k) c).2.1 == 4 then .inr (.inr (bmV b (Ai s.1 i) (C9 ps k) c).2.1) else .inl s
def A65 : MK ⊕ (MK ⊕ Int) → MK ⊕ Int
 | .inl s => .inl s
 | .inr x => x
def A2n (f : Nat) (x : GB) (c : Cb) (r : MK ⊕ (MK ⊕ Int)) : A1 (A62 f) := match A65 r with
 | .inl s => Vu f x c s
 | .inr e => A64 f e
structure InvK (n k : Nat) (i : Nat) (s : MK) : Prop where
 m : s.1.length = n
 k : s.2.length ≤ k + i
theorem Aon {b : TCT A4} {c : TCT D5} {ps : Dss} {os : List Bool} {w fl t st : Int} {i n k0 m : Nat} (k : Nat) (s s' : MK) (_ : k < m) (hi : InvK n k0 k s) (h : bpE b c ps os w fl t st i k s = .inl s') : InvK n k0 (k + 1) s' := by
 unfold bpE at h
 have hk := hi.k
 cases h1 : !C1 s.1 os i || El w fl i with
 | true => rw [h1] at h; cases h
 | false =>
  rw [h1] at h
  cases h2 : (bmV b (Ai s.1 i) (C9 ps k) c).2.1 == 0 with
  | true => rw [h2] at h; cases h; exact ⟨by rw [Br]; exact hi.m, by simp; omega⟩
  | false =>
   rw [h2] at h
   cases h3 : (bmV b (Ai s.1 i) (C9 ps k) c).2.1 == 4 with
   | true => rw [h3] at h; cases h
   | false => rw [h3] at h; cases h; exact ⟨hi.m, by omega⟩
theorem Bbt {f : Nat} {x : GB} {c : Cb} {i n k0 : Nat} {s : MK} (hci : c.i = (i : Int)) (hi : i < n) (hos : (gmO x.1).length = n) (hs : InvK n k0 0 s) (hk0 : k0 ≤ 990000) (hps : c.ps.length ≤ 1000) :
  iter (Aom f) (c.ps.length + 1) (A63 f x c c.ps.length 0 s) = some (A2n f x c (Ag (bpE c.b (gmC x.1) c.ps (gmO x.1) (gmW x.1) (gmF x.1) (gmT x.1) (gmS x.1) i) 0 c.ps.length s)) := by
 have hn : (c.ps.length : Int) ≤ As .i64 := by show (c.ps.length : Int) ≤ 9223372036854775807; omega
 refine Ef c.ps.length (fun k s => A63 f x c c.ps.length k s) (bpE c.b (gmC x.1) c.ps (gmO x.1) (gmW x.1) (gmF x.1) (gmT x.1) (gmS x.1) i) (A2n f x c) (InvK n k0) (fun k s hk hl => ?_) Aon (fun s hl => ?_) c.ps.length 0 s (by omega) hs
 ·show (Vv f (gb (gmU x.1 s.1 (gmO x.1)) s.2) c c.ps.length k s).run = _
  have h1 := hl.m
  have h2 := hl.k
  unfold Vv
  show Tree.run (bif decide ((k : Int) < (c.ps.length : Int)) then inN c.ps.length k (bif Z3 s.1 (gmO x.1) c.i then
   bif !C1 s.1 (gmO x.1) (Int.toNat c.i) then .leaf (.inr (Vu f x c s)) else bif El (gmW x.1) (gmF x.1) c.i then .leaf (.inr (Vu f x c s)) else
   inO s.1.length c.i (Aaz f x c c.ps.length k s (bmV c.b (Ai s.1 (Int.toNat c.i)) (C9 c.ps k) (gmC x.1))) else .fail) else .leaf (.inr (Vu f x c s)) : TB2 f) = _
  rw [hci, decide_eq_true (show (k : Int) < (c.ps.length : Int) by omega), Ci (by omega), A2g hi h1 hos, Bp (by omega), show Int.toNat (i : Int) = i from rfl]
  unfold Aaz bpE Tt
  rw [hci, Bp (by omega), Gi (by simp; omega) (by decide), Bs hk hn, show Int.toNat (i : Int) = i from rfl]
  cases C1 s.1 (gmO x.1) i with
  | false => rfl
  | true =>
   cases El (gmW x.1) (gmF x.1) i with
   | true => rfl
   | false =>
    simp only [Bool.not_true, Bool.or_self, cond_true, cond_false]
    cases (bmV c.b (Ai s.1 i) (C9 c.ps k) (gmC x.1)).2.1 == 0 with
    | true => rfl
    | false =>
     simp only [cond_false]
     cases (bmV c.b (Ai s.1 i) (C9 c.ps k) (gmC x.1)).2.1 == 4 <;> rfl
 ·show (Vv f (gb (gmU x.1 s.1 (gmO x.1)) s.2) c c.ps.length c.ps.length s).run = _
  unfold Vv
  rw [decide_eq_false (show ¬ (c.ps.length : Int) < (c.ps.length : Int) by omega)]
  rfl
def Aoo (f : Nat) (x : GB) (bl : List (TCT A4)) (n i : Int) (s : MK) : (Aax f).T := (((), bl, n, i, ()), gb (gmU x.1 s.1 (gmO x.1)) s.2)
def B25 (f : Nat) (x : GB) (s : MK) : A1 (Aay f) := ⟨.exit 0, ((), gb (gmU x.1 s.1 (gmO x.1)) s.2)⟩
def B26 (f : Nat) (e : Int) : A1 (Aay f) := ⟨.panic (.ifc 44 (.int .i64 e)), ((), ())⟩
abbrev TB1 (f : Nat) := Tree ((Aax f).T ⊕ A1 (Aay f))
def Bbu (f : Nat) (r : (Bbr f).T) : (Aax f).T := (((), r.1.2.1, r.1.2.2.1, W64 (r.1.2.2.2.1 + 1), ()), r.2)
def Aop (f : Nat) (y : Option (A1 (A62 f))) : TB1 f := bif isP 44 .i64 y then .leaf (.inr (B26 f (panO 44 .i64 y).1)) else bif isE (.exit 2) y then .leaf (.inl (Bbu f (B7 (.exit 2) y))) else .fail
def Bbv (f : Nat) (x : GB) (c : Cb) : Option (A1 (A62 f)) := iter (Aom f) (c.ps.length + 1) (A63 f x c c.ps.length 0 (gmM x.1, gk x))
def cb1 (x : GB) (bl : List (TCT A4)) (n i : Int) : Cb := ⟨i, D9 bl (Int.toNat i), bl, n, i, gmP x.1⟩
def Vx (f : Nat) (x : GB) (bl : List (TCT A4)) (n i : Int) : TB1 f := bif decide (i < n) then inN bl.length i (Aop f (Bbv f x (cb1 x bl n i))) else .leaf (.inr (B25 f x (gmM x.1, gk x)))
def Aoq (f : Nat) (g : (Aax f).T) : TB1 f := Vx f g.2 g.1.2.1 g.1.2.2.1 g.1.2.2.2.1
def fu_b1 (f : Nat) (g : (Aax f).T) : Nat := Int.toNat g.1.2.2.1 + 1
def sm_b1 (f : Nat) : St → Tree (XE × St) := A9 (Aax f) (Aay f) (finP 44 .i64 [.exit 0] (Aoq f) (fu_b1 f))
def Lt_b1 (f : Nat) : Ib := fun k => bif Nat.beq k 4 then some (sm_b2 f) else none
theorem Aor : A8 A0h = [Vt] := by kernel_rfl
theorem B5j : keyOf Vt = 4 := by kernel_rfl
theorem A66 {f : Nat} (h : Ae Tryz.prog 124 Vt (sm_b2 f)) : ∀ d ∈ A8 A0h, ∀ g, Lt_b1 f (keyOf d) = some g → Ae Tryz.prog 124 d g := fun d hd g hg => by
 rw [Aor, List.mem_singleton] at hd
 subst hd
 rw [B5j] at hg
 cases hg
 exact h
theorem Aos : Ae Tryz.prog 124 Vt (sm_b2 67) := Gc (F2 is_be Fw Fx) 7 _ _ _ Af1 _ _ _ _ (fu_b2 67) (fun g => by kernel_rfl)
theorem Aot : Ae Tryz.prog 124 Vt (sm_b2 144) := Gc (F2 is_bf Fy Fz) 7 _ _ _ Af1 _ _ _ _ (fu_b2 144) (fun g => by kernel_rfl)
theorem B5k : Ae Tryz.prog 124 A0h (sm_b1 67) := Yv (F2 is_be Fw Fx) 7 _ (Lt_b1 67) (A66 Aos) _ _ Af2 _ _ _ _ (fu_b1 67) (fun g => by kernel_rfl)
theorem B5l : Ae Tryz.prog 124 A0h (sm_b1 144) := Yv (F2 is_bf Fy Fz) 7 _ (Lt_b1 144) (A66 Aot) _ _ Af2 _ _ _ _ (fu_b1 144) (fun g => by kernel_rfl)
def boE (bl : List (TCT A4)) (c : TCT D5) (ps : Dss) (os : List Bool) (w fl t st : Int) (i : Nat) (s : MK) : MK ⊕ Int := A65 (Ag (bpE (D9 bl i) c ps os w fl t st i) 0 ps.length s)
def Vy (f : Nat) (x : GB) : MK ⊕ Int → A1 (Aay f)
 | .inl s => B25 f x s
 | .inr e => B26 f e
theorem Aou {b : TCT A4} {c : TCT D5} {ps : Dss} {os : List Bool} {w fl t st : Int} {i n k0 m : Nat} : ∀ (j k : Nat) (s s' : MK), k + j = m → InvK n k0 k s → A65 (Ag (bpE b c ps os w fl t st i) k j s) = .inl s' → InvK n k0 m s'
 | 0, k, s, s', hj, hi, h => by
  have e : k = m := by omega
  subst e
  cases h
  exact hi
 | j + 1, k, s, s', hj, hi, h => by
  unfold Ag at h
  cases hf : bpE b c ps os w fl t st i k s with
  | inl t1 => rw [hf] at h; exact Aou j (k + 1) t1 s' (by omega) (Aon (m := m) k s t1 (by omega) hi hf) h
  | inr y =>
   rw [hf] at h
   unfold bpE at hf
   have hk := hi.k
   cases h1 : !C1 s.1 os i || El w fl i with
   | true =>
    rw [h1] at hf
    cases hf
    cases h
    exact ⟨hi.m, by omega⟩
   | false =>
    rw [h1] at hf
    cases h2 : (bmV b (Ai s.1 i) (C9 ps k) c).2.1 == 0 with
    | true => rw [h2] at hf; cases hf
    | false =>
     rw [h2] at hf
     cases h3 : (bmV b (Ai s.1 i) (C9 ps k) c).2.1 == 4 with
     | true => rw [h3] at hf; cases hf; cases h
     | false => rw [h3] at hf; cases hf
structure InvO (n k P : Nat) (i : Nat) (s : MK) : Prop where
 m : s.1.length = n
 k : s.2.length ≤ k + i * P
theorem Aov {bl : List (TCT A4)} {c : TCT D5} {ps : Dss} {os : List Bool} {w fl t st : Int} {n k0 m : Nat} (i : Nat) (s s' : MK) (_ : i < m) (hi : InvO n k0 ps.length i s) (h : boE bl c ps os w fl t st i s = .inl s') : InvO n k0 ps.length (i + 1) s' := by
 have a := Aou (n := n) (k0 := k0 + i * ps.length) (m := ps.length) ps.length 0 s s' (by omega) ⟨hi.m, by have := hi.k; omega⟩ h
 have e : (i + 1) * ps.length = i * ps.length + ps.length := Nat.succ_mul i ps.length
 exact ⟨a.m, by have := a.k; omega⟩
theorem Bbw {f : Nat} {x : GB} {s : MK} (hx : OkGM x.1) (hm : s.1.length = nBx x.1) (hk : s.2.length ≤ 900000) (hps : (gmP x.1).length ≤ 1000) :
  iter (Aoq f) (nBx x.1 + 1) (Aoo f x (gmB x.1) (nBx x.1) 0 s) = some (Vy f x (Ag (boE (gmB x.1) (gmC x.1) (gmP x.1) (gmO x.1) (gmW x.1) (gmF x.1) (gmT x.1) (gmS x.1)) 0 (nBx x.1) s)) := by
 have hn8 := hx.n
 have hn : (nBx x.1 : Int) ≤ As .i64 := by show (nBx x.1 : Int) ≤ 9223372036854775807; omega
 refine Ef (nBx x.1) (fun i s => Aoo f x (gmB x.1) (nBx x.1) i s) (boE (gmB x.1) (gmC x.1) (gmP x.1) (gmO x.1) (gmW x.1) (gmF x.1) (gmT x.1) (gmS x.1)) (Vy f x) (InvO (nBx x.1) s.2.length (gmP x.1).length) (fun i s1 hi hl => ?_) Aov (fun s hl => ?_) (nBx x.1) 0 s (by omega) ⟨hm, by omega⟩
 ·show (Vx f (gb (gmU x.1 s1.1 (gmO x.1)) s1.2) (gmB x.1) (nBx x.1) i).run = _
  have h2 := hl.k
  have h3 : i * (gmP x.1).length ≤ 8 * 1000 := Nat.mul_le_mul (by omega) hps
  have hy : Bbv f (gb (gmU x.1 s1.1 (gmO x.1)) s1.2) (cb1 (gb (gmU x.1 s1.1 (gmO x.1)) s1.2) (gmB x.1) (nBx x.1) i) = some (A2n f (gb (gmU x.1 s1.1 (gmO x.1)) s1.2) (cb1 (gb (gmU x.1 s1.1 (gmO x.1)) s1.2) (gmB x.1) (nBx x.1) i) (Ag (bpE (D9 (gmB x.1) i) (gmC x.1) (gmP x.1) (gmO x.1) (gmW x.1) (gmF x.1) (gmT x.1) (gmS x.1) i) 0 (gmP x.1).length s1)) :=
   Bbt (f := f) (x := gb (gmU x.1 s1.1 (gmO x.1)) s1.2) (c := cb1 (gb (gmU x.1 s1.1 (gmO x.1)) s1.2) (gmB x.1) (nBx x.1) i) (i := i) (n := nBx x.1) (k0 := s.2.length + i * (gmP x.1).length) (s := s1) rfl hi hx.os ⟨hl.m, by omega⟩ (by omega) hps
  unfold Vx
  rw [decide_eq_true (show (i : Int) < (nBx x.1 : Int) by omega), Ci (n := (gmB x.1).length) (by show 0 ≤ (i : Int) ∧ (i : Int) < (nBx x.1 : Int); omega), hy]
  unfold boE A2n
  cases A65 (Ag (bpE (D9 (gmB x.1) i) (gmC x.1) (gmP x.1) (gmO x.1) (gmW x.1) (gmF x.1) (gmT x.1) (gmS x.1) i) 0 (gmP x.1).length s1) with
  | inl s2 =>
   show (Tree.leaf (.inl (((), gmB x.1, (nBx x.1 : Int), W64 ((i : Int) + 1), ()), gb (gmU x.1 s2.1 (gmO x.1)) s2.2)) : TB1 f).run = _
   rw [Bs hi hn]
   rfl
  | inr e =>
   have h1 : isP 44 .i64 (some (A64 f e)) = true := N5
   have h2 : panO 44 .i64 (some (A64 f e)) = ⟨e, ((), ())⟩ := Io
   show (Aop f (some (A64 f e))).run = _
   unfold Aop
   rw [h1, h2]
   rfl
 ·show (Vx f (gb (gmU x.1 s.1 (gmO x.1)) s.2) (gmB x.1) (nBx x.1) (nBx x.1)).run = _
  unfold Vx
  rw [decide_eq_false (show ¬ (nBx x.1 : Int) < (nBx x.1 : Int) by omega)]
  rfl
noncomputable def Bh5 (f : Nat) : Ctx := Kj Tryz.prog Vj [(124, Tryz.f124)] [((124, 1), sm_b1 f), ((124, 4), sm_b2 f)] (spG f)
theorem Af3 {f : Nat} (h1 : Ax Tryz.prog 159 (sp_ro f)) (h2 : Ax Tryz.prog 113 (sp_fl f)) (l1 : Ae Tryz.prog 124 A0h (sm_b1 f)) (l2 : Ae Tryz.prog 124 Vt (sm_b2 f)) : CtxOk (Bh5 f) :=
 D8 Ab Z4 (fns_cons is_bc A2) (Ap (Fm (ds := [A0h, Vt]) (by kernel_rfl) ⟨Ec (k := 1) (by kernel_rfl) rfl l1, Ec (k := 4) (by kernel_rfl) rfl l2, trivial⟩) Ez) (K5 is_a5.plain h1 is_a6.plain h2)
def Aow (f : Nat) (x : GB) : Option (A1 (Aay f)) := iter (Aoq f) (nBx x.1 + 1) (Aoo f x (gmB x.1) (nBx x.1) 0 (gmM x.1, gk x))
def T_bp (f : Nat) (x : GB) : TU f := bif isP 44 .i64 (Aow f x) then .leaf ⟨false, pnU f (panO 44 .i64 (Aow f x)).1⟩ else bif isE (.exit 0) (Aow f x) then .leaf ⟨true, ((), (B7 (.exit 0) (Aow f x)).2)⟩ else .fail
def buF (bl : List (TCT A4)) (c : TCT D5) (ps : Dss) (t st w fl : Int) (n : Nat) (s : S2) : MK ⊕ Int := Ag (boE bl c ps s.2.1 w fl t st) 0 n (s.1, s.2.2)
def Z7 (x : GB) : Bool := Ou x && decide ((gmP x.1).length ≤ 1000)
theorem A67 {x : GB} (h : Z7 x = true) : OkGM x.1 ∧ (gk x).length ≤ 900000 ∧ (gmP x.1).length ≤ 1000 := by
 unfold Z7 at h
 simp only [Bool.and_eq_true, decide_eq_true_eq] at h
 have a := Vq h.1
 exact ⟨a.1, a.2, h.2⟩
def A68 (x : GB) : Option (MK ⊕ Int) := bif Z7 x then some (buF (gmB x.1) (gmC x.1) (gmP x.1) (gmT x.1) (gmS x.1) (gmW x.1) (gmF x.1) (nBx x.1) (gs x)) else none
abbrev sp_bp (f : Nat) : Ac → Nat → List AV → Tree (Out × Ac × Nat) := Gr Jt (FL_g f) (FE_u f) (Vk (fun g : (FL_g f).T => A68 g.2) (fun g => A61 f g.2) (pnU f) ([], []))
theorem Aox {f : Nat} {g : (FL_g f).T} {z : MK ⊕ Int} (h : A68 g.2 = some z) : (T_bp f g.2).run = some (Z5 (L := FL_g f) (E := FE_u f) (fun g => A61 f g.2) (pnU f) g z) := by
 unfold A68 at h
 cases ho : Z7 g.2 with
 | false => rw [ho] at h; cases h
 | true =>
  rw [ho] at h
  cases h
  obtain ⟨hg, hk, hp⟩ := A67 ho
  have hy : Aow f g.2 = some (Vy f g.2 (buF (gmB g.2.1) (gmC g.2.1) (gmP g.2.1) (gmT g.2.1) (gmS g.2.1) (gmW g.2.1) (gmF g.2.1) (nBx g.2.1) (gs g.2))) := Bbw hg hg.ms hk hp
  unfold T_bp
  rw [hy]
  cases buF (gmB g.2.1) (gmC g.2.1) (gmP g.2.1) (gmT g.2.1) (gmS g.2.1) (gmW g.2.1) (gmF g.2.1) (nBx g.2.1) (gs g.2) with
  | inl s => rfl
  | inr e =>
   have h1 : isP 44 .i64 (some (Vy f g.2 (.inr e))) = true := N5
   have h2 : panO 44 .i64 (some (Vy f g.2 (.inr e))) = ⟨e, ((), ())⟩ := Io
   rw [h1, h2]
   rfl
theorem Ax2 : Ax Tryz.prog 124 (sp_bp 67) := Ju (Af3 Fw Fx B5k Aos) 6 Hk _ _ _ _ (fun g => T_bp 67 g.2) (fun g => by kernel_rfl) fun _ _ _ h => Aox h
theorem Ax3 : Ax Tryz.prog 124 (sp_bp 144) := Ju (Af3 Fy Fz B5l Aot) 6 Hk _ _ _ _ (fun g => T_bp 144 g.2) (fun g => by kernel_rfl) fun _ _ _ h => Aox h
end St
def thY {A β : Type} (y : Option (A ⊕ Int)) (d : A) (pn : Int → Tree β) (k : A → Tree β) : Tree β := bif isL y then k (gL d y) else bif isR y then pn (gR 0 y) else .fail
theorem Q1 {A β : Type} {y : Option (A ⊕ Int)} {d a : A} {pn : Int → Tree β} {k : A → Tree β} (h : y = some (.inl a)) : thY y d pn k = k a := by rw [h]; rfl
theorem Q2 {A β : Type} {y : Option (A ⊕ Int)} {d : A} {e : Int} {pn : Int → Tree β} {k : A → Tree β} (h : y = some (.inr e)) : thY y d pn k = pn e := by rw [h]; rfl
namespace St
noncomputable def Af4 : Code := (A8 (bodyOf Tryz.f68)).getD 0 .skip
def Ab0 (f : Nat) : Lay := { keys := [0], ks := [.p 0 0 0 0], bs := bsG f, n := 52, nx := 4000, marks := [] }
def Bh6 : Lay := { keys := [], ks := [], bs := [], n := 52, nx := 9000, marks := [] }
def A69 (f : Nat) : XE → Lay := fun e => match e with | .panic _ => Bh6 | _ => Ab0 f
theorem Af5 {f : Nat} (e : XE) : (Ab0 f).nx ≤ (A69 f e).nx := by cases e <;> first | exact Nat.le_refl _ | exact (by decide : (4000 : Nat) ≤ 9000)
abbrev YS : Type := GB → Option (Af ⊕ Int)
abbrev Y2 : Type := GB → Option (S2 ⊕ Int)
abbrev YK : Type := GB → Option (MK ⊕ Int)
abbrev SPf : Type := Ac → Nat → List AV → Tree (Out × Ac × Nat)
def Bh7 {β : Type} (m : GM) (ms : Af) (os : List Bool) (k : GM → β) : β := match m with
 | (a0, a1, a2, a3, a4, a5, a6, a7, a8, a9, a10, a11, a12, a13, a14, _, _, a17, a18, a19, a20, a21, _) => k (a0, a1, a2, a3, a4, a5, a6, a7, a8, a9, a10, a11, a12, a13, a14, ms, os, a17, a18, a19, a20, a21, ())
def Bbx {β : Type} (m : GM) (ms : Af) (k : GM → β) : β := match m with
 | (a0, a1, a2, a3, a4, a5, a6, a7, a8, a9, a10, a11, a12, a13, a14, _, a16, a17, a18, a19, a20, a21, _) => k (a0, a1, a2, a3, a4, a5, a6, a7, a8, a9, a10, a11, a12, a13, a14, ms, a16, a17, a18, a19, a20, a21, ())
def gmA (m : GM) (ms : Af) (os : List Bool) (fl tk st : Int) : GM := (m.1, m.2.1, m.2.2.1, m.2.2.2.1, m.2.2.2.2.1, m.2.2.2.2.2.1, m.2.2.2.2.2.2.1, m.2.2.2.2.2.2.2.1, m.2.2.2.2.2.2.2.2.1, m.2.2.2.2.2.2.2.2.2.1, m.2.2.2.2.2.2.2.2.2.2.1, m.2.2.2.2.2.2.2.2.2.2.2.1, m.2.2.2.2.2.2.2.2.2.2.2.2.1, m.2.2.2.2.2.2.2.2.2.2.2.2.2.1, m.2.2.2.2.2.2.2.2.2.2.2.2.2.2.1, ms, os, m.2.2.2.2.2.2.2.2.2.2.2.2.2.2.2.2.2.1, fl, tk, st, m.2.2.2.2.2.2.2.2.2.2.2.2.2.2.2.2.2.2.2.2.2.1, ())
def Sq {L : FLay} {E : Bool → FLay} {A : Type} (Y : L.T → Option (A ⊕ Int)) (mk : L.T → A → ((E true).T → Tree (Bl E)) → Tree (Bl E)) (pn : Int → (E false).T) (d : A) (g : L.T) : Tree (Bl E) :=
 .br (isL (Y g)) (mk g (gL d (Y g)) fun y => .leaf ⟨true, y⟩) (.br (isR (Y g)) (.leaf ⟨false, pn (gR 0 (Y g))⟩) .fail)
def Bby (f : Nat) (x : GB) (s : S2) (k : (FE_u f true).T → Tree (Bl (FE_u f))) : Tree (Bl (FE_u f)) := Bh7 x.1 s.1 s.2.1 fun m => k ((), (m, (s.2.2, ()), ()))
def Bbz (f : Nat) (x : GB) (s : MK) (k : (FE_u f true).T → Tree (Bl (FE_u f))) : Tree (Bl (FE_u f)) := Bbx x.1 s.1 fun m => k ((), (m, (s.2, ()), ()))
def Bc0 (f : Nat) (x : GB) (s : Af) (k : (FE_u f true).T → Tree (Bl (FE_u f))) : Tree (Bl (FE_u f)) := Bbx x.1 s fun m => k ((), (m, (x.2.1.1, ()), ()))
theorem Ax4 {f : Nat} (Y : Y2) : (Sq (L := FL_g f) (E := FE_u f) (fun g => Y g.2) (fun g => Bby f g.2) (pnU f) ([], [], [])) = (Vk (L := FL_g f) (E := FE_u f) (fun g => Y g.2) (fun g => Ao9 f g.2) (pnU f) ([], [], [])) := rfl
theorem Af6 {f : Nat} (Y : YK) : (Sq (L := FL_g f) (E := FE_u f) (fun g => Y g.2) (fun g => Bbz f g.2) (pnU f) ([], [])) = (Vk (L := FL_g f) (E := FE_u f) (fun g => Y g.2) (fun g => A61 f g.2) (pnU f) ([], [])) := rfl
theorem Ax5 {f : Nat} (Y : YS) : (Sq (L := FL_g f) (E := FE_u f) (fun g => Y g.2) (fun g => Bc0 f g.2) (pnU f) []) = (Vk (L := FL_g f) (E := FE_u f) (fun g => Y g.2) (fun g => Aak f g.2) (pnU f) []) := rfl
abbrev Bc1 (f : Nat) (Y : YS) : SPf := Gr Jt (FL_g f) (FE_u f) (Sq (fun g : (FL_g f).T => Y g.2) (fun g => Bc0 f g.2) (pnU f) [])
abbrev Bc2 (f : Nat) (Y : Y2) : SPf := Gr Jt (FL_g f) (FE_u f) (Sq (fun g : (FL_g f).T => Y g.2) (fun g => Bby f g.2) (pnU f) ([], [], []))
abbrev Ax6 (f : Nat) (Y : YK) : SPf := Gr Jt (FL_g f) (FE_u f) (Sq (fun g : (FL_g f).T => Y g.2) (fun g => Bbz f g.2) (pnU f) ([], []))
structure TY where
 s : YS
 m : Y2
 e : YK
 b : YK
def spT (f : Nat) (Y : TY) : List (Nat × SPf) := [(122, Bc1 f Y.s), (123, Bc2 f Y.m), (58, Ax6 f Y.e), (124, Ax6 f Y.b)]
def tyG : TY := ⟨Vn, A5y, A60, A68⟩
theorem Aoy {f : Nat} (h1 : Ax Tryz.prog 122 (sp_slw f)) (h2 : Ax Tryz.prog 123 (sp_mv f)) (h3 : Ax Tryz.prog 58 (sp_se f)) (h4 : Ax Tryz.prog 124 (sp_bp f)) : ∀ p ∈ spT f tyG, Plain Tryz.prog p.1 ∧ Ax Tryz.prog p.1 p.2 := fun p hp => by
 unfold spT at hp
 simp only [List.mem_cons, List.not_mem_nil, or_false] at hp
 rcases hp with rfl | rfl | rfl | rfl
 ·exact ⟨is_a9.plain, by rw [tyG, Bc1, Ax5]; exact h1⟩
 ·exact ⟨is_ba.plain, by rw [tyG, Bc2, Ax4]; exact h2⟩
 ·exact ⟨is_bb.plain, by rw [tyG, Ax6, Af6]; exact h3⟩
 ·exact ⟨is_bc.plain, by rw [tyG, Ax6, Af6]; exact h4⟩
theorem B27 : ∀ p ∈ spT 67 tyG, Plain Tryz.prog p.1 ∧ Ax Tryz.prog p.1 p.2 := Aoy Ao1 Awx Ax0 Ax2
theorem B28 : ∀ p ∈ spT 144 tyG, Plain Tryz.prog p.1 ∧ Ax Tryz.prog p.1 p.2 := Aoy Ao2 Awy Ax1 Ax3
noncomputable def Bh8 (f : Nat) (Y : TY) : Ctx := Kj Tryz.prog Vj [(57, Tryz.f57)] [] (spT f Y)
theorem Af7 {f : Nat} {Y : TY} (h : ∀ p ∈ spT f Y, Plain Tryz.prog p.1 ∧ Ax Tryz.prog p.1 p.2) : CtxOk (Bh8 f Y) := D8 Ab Z4 (fns_cons is_a8 A2) G5 h
def x2 (x : GB) (s : S2) : GB := gb (gmU x.1 s.1 s.2.1) s.2.2
abbrev TTk (f : Nat) := Tree ((Ab0 f).T ⊕ A1 (A69 f))
def B29 (f : Nat) (e : Int) : A1 (A69 f) := ⟨.panic (.ifc 44 (.int .i64 e)), ((), ())⟩
def A0i (f : Nat) (e : Int) : TTk f := .leaf (.inr (B29 f e))
def z2 : S2 := ([], [], [])
def zM : MK := ([], [])
def xS (x : GB) (i : Int) (s : S2) : GB := (gmA x.1 s.1 s.2.1 (gmF x.1) (gmT x.1) i, (s.2.2, ()), ())
def Vz (f : Nat) (Y : TY) (x : GB) (i : Int) (s : S2) : TTk f := bif decide (i ≤ 16) then thY (Y.m (xS x i s)) z2 (A0i f) fun s1 => thY (Y.e (xS x i s1)) zM (A0i f) fun s2 => thY (Y.b (xS x i (s2.1, s1.2.1, s2.2))) zM (A0i f) fun s3 => .leaf (.inl (((), ()), xS x (W64 (i + 1)) (s3.1, s1.2.1, s3.2)))
 else .leaf (.inr ⟨.exit 0, (((), ()), xS x i s)⟩)
def Af8 (f : Nat) (Y : TY) (g : (Ab0 f).T) : TTk f := Vz f Y g.2 (gmS g.2.1) (gs g.2)
def fu_tk (f : Nat) (_ : (Ab0 f).T) : Nat := 17
def sm_tk (f : Nat) (Y : TY) : St → Tree (XE × St) := A9 (Ab0 f) (A69 f) (finP 44 .i64 [.exit 0] (Af8 f Y) (fu_tk f))
theorem B5m {Y : TY} (h : ∀ p ∈ spT 67 Y, Plain Tryz.prog p.1 ∧ Ax Tryz.prog p.1 p.2) : Ae Tryz.prog 68 Af4 (sm_tk 67 Y) := Gc (Af7 h) 7 _ _ _ Af5 _ _ _ _ (fu_tk 67) (fun g => by kernel_rfl)
theorem B5n {Y : TY} (h : ∀ p ∈ spT 144 Y, Plain Tryz.prog p.1 ∧ Ax Tryz.prog p.1 p.2) : Ae Tryz.prog 68 Af4 (sm_tk 144 Y) := Gc (Af7 h) 7 _ _ _ Af5 _ _ _ _ (fu_tk 144) (fun g => by kernel_rfl)
structure CT where
 bl : List (TCT A4)
 l : TCT An
 c : TCT D5
 ps : Dss
 w : Int
 fl : Int
 t : Int
def tkE (k : CT) (i : Nat) (s : S2) : S2 ⊕ Int := match mvF k.bl k.l k.t ((i + 1 : Nat) : Int) k.bl.length s with
 | .inr e => .inr e
 | .inl s1 => match seF k.bl k.c k.t ((i + 1 : Nat) : Int) k.w k.fl k.bl.length s1 with
  | .inr e => .inr e
  | .inl s2 => match buF k.bl k.c k.ps k.t ((i + 1 : Nat) : Int) k.w k.fl k.bl.length (s2.1, s1.2.1, s2.2) with
   | .inr e => .inr e
   | .inl s3 => .inl (s3.1, s1.2.1, s3.2)
theorem Af9 {bl : List (TCT A4)} {l : TCT An} {t st : Int} {n k : Nat} {s s' : S2} (hs : Inv2 n k 0 s) (h : mvF bl l t st n s = .inl s') : Inv2 n (k + n) 0 s' := by
 unfold mvF at h
 cases h1 : Ag (stE bl s.2.1) 0 n s.1 with
 | inr e => rw [h1] at h; cases h
 | inl ms =>
  rw [h1] at h
  change Ag (lvE l t st) 0 n (ms, s.2.1, s.2.2) = .inl s' at h
  have hm : ms.length = n := B8 (n := n) (Inv := fun _ (s : Af) => s.length = n) Vo n 0 _ _ (by omega) hs.m h1
  have a := B8 (n := n) (Inv := Inv2 n k) A2i n 0 (ms, s.2.1, s.2.2) s' (by omega) ⟨hm, hs.o, hs.k⟩ h
  exact ⟨a.m, a.o, by have := a.k; omega⟩
theorem A2o {bl : List (TCT A4)} {c : TCT D5} {t st w fl : Int} {n k : Nat} {s : S2} {s' : MK} (hn : n ≤ 8) (hs : Inv2 n k 0 s) (h : seF bl c t st w fl n s = .inl s') : Inv2 n (k + 64) 0 (s'.1, s.2.1, s'.2) := by
 unfold seF at h
 cases he : (seS bl c w fl n s).2.2.1 != 0 with
 | true => rw [he] at h; cases h
 | false =>
  rw [he] at h
  cases h
  have a := Aav (bl := bl) (bc := c) (w := w) (fl := fl) (s := s) hn (bne_eq_false_iff_eq.1 he)
  have hk := hs.k
  refine ⟨?_, hs.o, ?_⟩
  ·show (scV _ _ _).length = n
   rw [Aex]; exact hs.m
  ·show (kpV _ _ _ _ _).length ≤ _
   rw [Awz]; have := a.2.1; omega
theorem Ax7 {bl : List (TCT A4)} {c : TCT D5} {ps : Dss} {t st w fl : Int} {n k : Nat} {s : S2} {s' : MK} (hs : Inv2 n k 0 s) (h : buF bl c ps t st w fl n s = .inl s') : Inv2 n (k + n * ps.length) 0 (s'.1, s.2.1, s'.2) := by
 unfold buF at h
 have hk := hs.k
 have a := B8 (n := n) (Inv := InvO n s.2.2.length ps.length) Aov n 0 _ _ (by omega) ⟨hs.m, by show s.2.2.length ≤ s.2.2.length + 0 * ps.length; omega⟩ h
 exact ⟨a.m, hs.o, by have := a.k; show s'.2.length ≤ _; omega⟩
theorem U6 {k : CT} {k0 m : Nat} (hn : k.bl.length ≤ 8) (hp : k.ps.length ≤ 1000) (i : Nat) (s s' : S2) (_ : i < m) (hs : Inv2 k.bl.length (k0 + i * 8072) 0 s) (h : tkE k i s = .inl s') : Inv2 k.bl.length (k0 + (i + 1) * 8072) 0 s' := by
 unfold tkE at h
 cases h1 : mvF k.bl k.l k.t ((i + 1 : Nat) : Int) k.bl.length s with
 | inr e => rw [h1] at h; cases h
 | inl s1 =>
  rw [h1] at h
  have a := Af9 hs h1
  simp only at h
  cases h2 : seF k.bl k.c k.t ((i + 1 : Nat) : Int) k.w k.fl k.bl.length s1 with
  | inr e => rw [h2] at h; cases h
  | inl s2 =>
   rw [h2] at h
   have b := A2o hn a h2
   simp only at h
   cases h3 : buF k.bl k.c k.ps k.t ((i + 1 : Nat) : Int) k.w k.fl k.bl.length (s2.1, s1.2.1, s2.2) with
   | inr e => rw [h3] at h; cases h
   | inl s3 =>
    rw [h3] at h
    cases h
    have c := Ax7 b h3
    have d : k.bl.length * k.ps.length ≤ 8 * 1000 := Nat.mul_le_mul hn hp
    exact ⟨c.m, c.o, by have := c.k; simp only at this ⊢; omega⟩
def ctG (m : GM) : CT := ⟨gmB m, gmL m, gmC m, gmP m, gmW m, gmF m, gmT m⟩
theorem Ax8 {x : GB} {i : Int} {s : S2} {k : Nat} (hsz : (x.1.1.size : Int) ≤ As .i64) (hn : nBx x.1 ≤ 8) (hs : Inv2 (nBx x.1) k 0 s) (hk : k ≤ 900000) : A5y (xS x i s) = some (mvF (gmB x.1) (gmL x.1) (gmT x.1) i (nBx x.1) s) := by
 have h : Ou (xS x i s) = true := by
  have := hs.k
  unfold Ou
  rw [Bool.and_eq_true, decide_eq_true_eq]
  exact ⟨E3.2 ⟨hsz, hs.m, hs.o, hn⟩, by show s.2.2.length ≤ 900000; omega⟩
 unfold A5y; rw [h]; rfl
theorem Ax9 {x : GB} {i : Int} {s : S2} {k : Nat} (hsz : (x.1.1.size : Int) ≤ As .i64) (hn : nBx x.1 ≤ 8) (hs : Inv2 (nBx x.1) k 0 s) (hk : k ≤ 900000) : A60 (xS x i s) = some (seF (gmB x.1) (gmC x.1) (gmT x.1) i (gmW x.1) (gmF x.1) (nBx x.1) s) := by
 have h : Ou (xS x i s) = true := by
  have := hs.k
  unfold Ou
  rw [Bool.and_eq_true, decide_eq_true_eq]
  exact ⟨E3.2 ⟨hsz, hs.m, hs.o, hn⟩, by show s.2.2.length ≤ 900000; omega⟩
 unfold A60; rw [h]; rfl
theorem Axa {x : GB} {i : Int} {s : S2} {k : Nat} (hsz : (x.1.1.size : Int) ≤ As .i64) (hn : nBx x.1 ≤ 8) (hp : (gmP x.1).length ≤ 1000) (hs : Inv2 (nBx x.1) k 0 s) (hk : k ≤ 900000) : A68 (xS x i s) = some (buF (gmB x.1) (gmC x.1) (gmP x.1) (gmT x.1) i (gmW x.1) (gmF x.1) (nBx x.1) s) := by
 have h : Z7 (xS x i s) = true := by
  have := hs.k
  unfold Z7 Ou
  rw [Bool.and_eq_true, Bool.and_eq_true, decide_eq_true_eq, decide_eq_true_eq]
  exact ⟨⟨E3.2 ⟨hsz, hs.m, hs.o, hn⟩, by show s.2.2.length ≤ 900000; omega⟩, hp⟩
 unfold A68; rw [h]; rfl
def Aoz (f : Nat) (x : GB) (i : Nat) (s : S2) : (Ab0 f).T := (((), ()), xS x ((i + 1 : Nat) : Int) s)
def Bc3 (f : Nat) (x : GB) (s : S2) : A1 (A69 f) := ⟨.exit 0, (((), ()), xS x 17 s)⟩
def W0 (f : Nat) (x : GB) : S2 ⊕ Int → A1 (A69 f)
 | .inl s => Bc3 f x s
 | .inr e => B29 f e
theorem Bc4 (x : GB) (i j : Int) (s t : S2) : xS (xS x i s) j t = xS x j t := by
 unfold xS gmA
 rfl
theorem A6a {f : Nat} {x : GB} {i : Nat} {s : S2} : Af8 f tyG (Aoz f x i s) = Vz f tyG x ((i + 1 : Nat) : Int) s := by
 show Vz f tyG (xS x ((i + 1 : Nat) : Int) s) ((i + 1 : Nat) : Int) s = _
 unfold Vz
 simp only [Bc4]
theorem Bc5 {f : Nat} {x : GB} {s : S2} {k0 : Nat} (hsz : (x.1.1.size : Int) ≤ As .i64) (hn : nBx x.1 ≤ 8) (hp : (gmP x.1).length ≤ 1000) (hs : Inv2 (nBx x.1) k0 0 s) (hk0 : k0 ≤ 700000) :
  iter (Af8 f tyG) 17 (Aoz f x 0 s) = some (W0 f x (Ag (tkE (ctG x.1)) 0 16 s)) := by
 refine Ef 16 (fun i s => Aoz f x i s) (tkE (ctG x.1)) (W0 f x) (fun i s => Inv2 (nBx x.1) (k0 + i * 8072) 0 s) (fun i s hi hl => ?_) (fun i s s' hi hl h => U6 (k := ctG x.1) (k0 := k0) (m := 16) hn hp i s s' hi hl h) (fun s hl => ?_) 16 0 s (by omega) ⟨hs.m, hs.o, by have := hs.k; omega⟩
 ·rw [A6a]
  have e1 := Ax8 (i := ((i + 1 : Nat) : Int)) hsz hn (s := s) hl (by omega)
  unfold Vz
  rw [decide_eq_true (show ((i + 1 : Nat) : Int) ≤ 16 by omega), cond_true]
  show (thY (A5y (xS x ((i + 1 : Nat) : Int) s)) z2 (A0i f) fun s1 => thY (A60 (xS x ((i + 1 : Nat) : Int) s1)) zM (A0i f) fun s2 => thY (A68 (xS x ((i + 1 : Nat) : Int) (s2.1, s1.2.1, s2.2))) zM (A0i f) fun s3 =>
   .leaf (.inl (((), ()), xS x (W64 (((i + 1 : Nat) : Int) + 1)) (s3.1, s1.2.1, s3.2)))).run = _
  unfold tkE
  change A5y (xS x ((i + 1 : Nat) : Int) s) = some (mvF (ctG x.1).bl (ctG x.1).l (ctG x.1).t ((i + 1 : Nat) : Int) (ctG x.1).bl.length s) at e1
  cases h1 : mvF (ctG x.1).bl (ctG x.1).l (ctG x.1).t ((i + 1 : Nat) : Int) (ctG x.1).bl.length s with
  | inr e => rw [h1] at e1; rw [Q2 e1]; rfl
  | inl s1 =>
   rw [h1] at e1
   rw [Q1 e1]
   have a : Inv2 (nBx x.1) (k0 + i * 8072 + nBx x.1) 0 s1 := Af9 hl h1
   have e2 := Ax9 (i := ((i + 1 : Nat) : Int)) hsz hn (s := s1) a (by omega)
   change A60 (xS x ((i + 1 : Nat) : Int) s1) = some (seF (ctG x.1).bl (ctG x.1).c (ctG x.1).t ((i + 1 : Nat) : Int) (ctG x.1).w (ctG x.1).fl (ctG x.1).bl.length s1) at e2
   simp only
   cases h2 : seF (ctG x.1).bl (ctG x.1).c (ctG x.1).t ((i + 1 : Nat) : Int) (ctG x.1).w (ctG x.1).fl (ctG x.1).bl.length s1 with
   | inr e => rw [h2] at e2; rw [Q2 e2]; rfl
   | inl s2 =>
    rw [h2] at e2
    rw [Q1 e2]
    have b : Inv2 (nBx x.1) (k0 + i * 8072 + nBx x.1 + 64) 0 (s2.1, s1.2.1, s2.2) := A2o hn a h2
    have e3 := Axa (i := ((i + 1 : Nat) : Int)) hsz hn hp (s := (s2.1, s1.2.1, s2.2)) b (by omega)
    change A68 (xS x ((i + 1 : Nat) : Int) (s2.1, s1.2.1, s2.2)) = some (buF (ctG x.1).bl (ctG x.1).c (ctG x.1).ps (ctG x.1).t ((i + 1 : Nat) : Int) (ctG x.1).w (ctG x.1).fl (ctG x.1).bl.length (s2.1, s1.2.1, s2.2)) at e3
    simp only
    cases h3 : buF (ctG x.1).bl (ctG x.1).c (ctG x.1).ps (ctG x.1).t ((i + 1 : Nat) : Int) (ctG x.1).w (ctG x.1).fl (ctG x.1).bl.length (s2.1, s1.2.1, s2.2) with
    | inr e => rw [h3] at e3; rw [Q2 e3]; rfl
    | inl s3 =>
     rw [h3] at e3
     rw [Q1 e3, Bv (by omega) (by omega)]
     rfl
 ·rw [A6a]
  rfl
noncomputable def X_ti (f : Nat) (Y : TY) : Ctx := Kj Tryz.prog Vj [(68, Tryz.f68), (57, Tryz.f57)] [((68, 4), sm_tk f Y)] (spT f Y)
theorem Afa {f : Nat} {Y : TY} (h : ∀ p ∈ spT f Y, Plain Tryz.prog p.1 ∧ Ax Tryz.prog p.1 p.2) (hl : Ae Tryz.prog 68 Af4 (sm_tk f Y)) : CtxOk (X_ti f Y) :=
 D8 Ab Z4 (fns_cons is_bd (fns_cons is_a8 A2)) (Ap (Fm (ds := [Af4]) (by kernel_rfl) ⟨Ec (k := 4) (by kernel_rfl) rfl hl, trivial⟩) (Ap (Av (by kernel_rfl)) Ez)) h
def A6b (f : Nat) (e : Int) : TU f := .leaf ⟨false, pnU f e⟩
def Bc6 (v : GB) : GB := (gmA v.1 (gmM v.1) (gmO v.1) (max 0 (W64 (gmF v.1 - 1))) (W64 (gmT v.1 + 1)) (gmS v.1), (gk v, ()), ())
def B5o (f : Nat) (y : Option (A1 (A69 f))) : TU f := bif isP 44 .i64 y then A6b f (panO 44 .i64 y).1 else bif isE (.exit 0) y then .leaf ⟨true, ((), Bc6 (B7 (.exit 0) y).2)⟩ else .fail
def B5p (f : Nat) (Y : TY) (x : GB) (ms : Af) : Option (A1 (A69 f)) := iter (Af8 f Y) 17 (((), ()), xS x 1 (ms, gmO x.1, gk x))
def T_ti (f : Nat) (Y : TY) (x : GB) : TU f := bif gmT x.1 == 4000 then A6b f 3 else thY (Y.s x) [] (A6b f) fun ms => B5o f (B5p f Y x ms)
def slE (l : TCT An) (os : List Bool) (w fl : Int) (i : Nat) (ms : Af) : Af ⊕ Int :=
 bif !C1 ms os i || El w fl i then .inl ms else bif Gh l (Ai ms i).1 != 0 then .inr (Gh l (Ai ms i).1) else
 bif (Ls l (Ai ms i)).2.1 != 0 then .inr 4 else .inl (B5 ms i (Aai l (Ai ms i)))
def tkF (k : CT) (s : S2) : S2 ⊕ Int := bif k.t == 4000 then .inr 3 else match Ag (slE k.l s.2.1 k.w k.fl) 0 k.bl.length s.1 with
 | .inr e => .inr e
 | .inl ms => Ag (tkE k) 0 16 (ms, s.2.1, s.2.2)
def Z8 (x : GB) : Bool := Z7 x && decide ((gk x).length ≤ 700000)
theorem A6c {x : GB} (h : Z8 x = true) : OkGM x.1 ∧ (gk x).length ≤ 700000 ∧ (gmP x.1).length ≤ 1000 := by
 unfold Z8 at h
 simp only [Bool.and_eq_true, decide_eq_true_eq] at h
 have a := A67 h.1
 exact ⟨a.1, h.2, a.2.2⟩
def Hy (x : GB) : Option (S2 ⊕ Int) := bif Z8 x then some (tkF (ctG x.1) (gs x)) else none
def xT (x : GB) (s : S2) : GB := (gmA x.1 s.1 s.2.1 (max 0 (W64 (gmF x.1 - 1))) (W64 (gmT x.1 + 1)) 17, (s.2.2, ()), ())
def Bh9 {β : Type} (m : GM) (ms : Af) (os : List Bool) (k : GM → β) : β := match m with
 | (a0, a1, a2, a3, a4, a5, a6, a7, a8, a9, a10, a11, a12, a13, a14, _, _, a17, a18, a19, _, a21, _) => k (a0, a1, a2, a3, a4, a5, a6, a7, a8, a9, a10, a11, a12, a13, a14, ms, os, a17, max 0 (W64 (a18 - 1)), W64 (a19 + 1), 17, a21, ())
def Bc7 (f : Nat) (x : GB) (s : S2) (k : (FE_u f true).T → Tree (Bl (FE_u f))) : Tree (Bl (FE_u f)) := Bh9 x.1 s.1 s.2.1 fun m => k ((), (m, (s.2.2, ()), ()))
def B5q (f : Nat) (x : GB) (s : S2) : (FE_u f true).T := ((), xT x s)
theorem Afb {f : Nat} (Y : Y2) : (Sq (L := FL_g f) (E := FE_u f) (fun g => Y g.2) (fun g => Bc7 f g.2) (pnU f) ([], [], [])) = (Vk (L := FL_g f) (E := FE_u f) (fun g => Y g.2) (fun g => B5q f g.2) (pnU f) ([], [], [])) := rfl
abbrev spYT (f : Nat) (Y : Y2) : SPf := Gr Jt (FL_g f) (FE_u f) (Sq (fun g : (FL_g f).T => Y g.2) (fun g => Bc7 f g.2) (pnU f) ([], [], []))
theorem Ap0 {f : Nat} {g : (FL_g f).T} {z : S2 ⊕ Int} (h : Hy g.2 = some z) : (T_ti f tyG g.2).run = some (Z5 (L := FL_g f) (E := FE_u f) (fun g => B5q f g.2) (pnU f) g z) := by
 unfold Hy at h
 cases ho : Z8 g.2 with
 | false => rw [ho] at h; cases h
 | true =>
  rw [ho] at h
  cases h
  obtain ⟨hg, hk, hp⟩ := A6c ho
  unfold T_ti tkF
  show Tree.run (bif gmT g.2.1 == 4000 then A6b f 3 else thY (Vn g.2) [] (A6b f) fun ms => B5o f (B5p f tyG g.2 ms)) = some (Z5 (L := FL_g f) (E := FE_u f) (fun g => B5q f g.2) (pnU f) g (bif gmT g.2.1 == 4000 then .inr 3 else match Ag (slE (gmL g.2.1) (gmO g.2.1) (gmW g.2.1) (gmF g.2.1)) 0 (nBx g.2.1) (gmM g.2.1) with
   | .inr e => .inr e
   | .inl ms => Ag (tkE (ctG g.2.1)) 0 16 (ms, gmO g.2.1, gk g.2)))
  cases gmT g.2.1 == 4000 with
  | true => rfl
  | false =>
   simp only [cond_false]
   have e1 : Vn g.2 = some (Ag (slE (gmL g.2.1) (gmO g.2.1) (gmW g.2.1) (gmF g.2.1)) 0 (nBx g.2.1) (gmM g.2.1)) := by
    unfold Vn
    rw [E3.2 hg]
    rfl
   cases h1 : Ag (slE (gmL g.2.1) (gmO g.2.1) (gmW g.2.1) (gmF g.2.1)) 0 (nBx g.2.1) (gmM g.2.1) with
   | inr e => rw [h1] at e1; rw [Q2 e1]; rfl
   | inl ms =>
    rw [h1] at e1
    rw [Q1 e1]
    have hms : ms.length = nBx g.2.1 := B8 (n := nBx g.2.1) (Inv := fun _ (s : Af) => s.length = nBx g.2.1) (fun i s s' hi hl h => Anz (m := g.2.1) i s s' hi hl h) (nBx g.2.1) 0 _ _ (by omega) hg.ms h1
    have hy : B5p f tyG g.2 ms = some (W0 f g.2 (Ag (tkE (ctG g.2.1)) 0 16 (ms, gmO g.2.1, gk g.2))) := Bc5 (x := g.2) (s := (ms, gmO g.2.1, gk g.2)) (k0 := (gk g.2).length) hg.sz hg.n hp ⟨hms, hg.os, by show (gk g.2).length ≤ (gk g.2).length + 0; omega⟩ hk
    rw [hy]
    simp only
    cases Ag (tkE (ctG g.2.1)) 0 16 (ms, gmO g.2.1, gk g.2) with
    | inl s => rfl
    | inr e =>
     have h1 : isP 44 .i64 (some (W0 f g.2 (.inr e))) = true := N5
     have h2 : panO 44 .i64 (some (W0 f g.2 (.inr e))) = ⟨e, ((), ())⟩ := Io
     unfold B5o
     rw [h1, h2]
     rfl
theorem B5r (Y : TY) (g : (FL_g 67).T) : H8 (X_ti 67 Y) (C4 (X_ti 67 Y) 6) 68 (ofKs (FL_g 67).ks g.1 (FL_g 67).nx) ((FL_g 67).lay.hp g) ((FL_g 67).lay.of g).nx (Ki (FE_u 67)) = T_ti 67 Y g.2 := by kernel_rfl
theorem Axb : Ax Tryz.prog 68 (spYT 67 Hy) := by
 rw [spYT, Afb]
 exact Ju (Afa B27 (B5m B27)) 6 Hk _ _ _ _ (fun g => T_ti 67 tyG g.2) (B5r tyG) fun _ _ _ h => Ap0 h
theorem B5s (Y : TY) (g : (FL_g 144).T) : H8 (X_ti 144 Y) (C4 (X_ti 144 Y) 6) 68 (ofKs (FL_g 144).ks g.1 (FL_g 144).nx) ((FL_g 144).lay.hp g) ((FL_g 144).lay.of g).nx (Ki (FE_u 144)) = T_ti 144 Y g.2 := by kernel_rfl
theorem Axc : Ax Tryz.prog 68 (spYT 144 Hy) := by
 rw [spYT, Afb]
 exact Ju (Afa B28 (B5n B28)) 6 Hk _ _ _ _ (fun g => T_ti 144 tyG g.2) (B5s tyG) fun _ _ _ h => Ap0 h
end St
theorem G6 {S B : Type} {f : Nat → S → S ⊕ B} : ∀ (k i : Nat) (s : S) (b : B), Ag f i k s = .inr b → ∃ j t, f j t = .inr b
 | 0, _, _, _, h => by cases h
 | k + 1, i, s, b, h => by
  unfold Ag at h
  cases hf : f i s with
  | inl t => rw [hf] at h; exact G6 k (i + 1) t b h
  | inr c => rw [hf] at h; cases h; exact ⟨i, s, hf⟩
namespace St
theorem is_bg : FnIs Tryz.prog (21, Tryz.f21) := ⟨Tryz.func21, by kernel_rfl, by kernel_rfl⟩
theorem is_bh : FnIs Tryz.prog (52, Tryz.f52) := ⟨Tryz.func52, by kernel_rfl, by kernel_rfl⟩
theorem is_bi : FnIs Tryz.prog (54, Tryz.f54) := ⟨Tryz.func54, by kernel_rfl, by kernel_rfl⟩
theorem is_bj : FnIs Tryz.prog (108, Tryz.f108) := ⟨Tryz.func108, by kernel_rfl, by kernel_rfl⟩
theorem is_bk : FnIs Tryz.prog (106, Tryz.f106) := ⟨Tryz.func106, by kernel_rfl, by kernel_rfl⟩
theorem is_bl : FnIs Tryz.prog (107, Tryz.f107) := ⟨Tryz.func107, by kernel_rfl, by kernel_rfl⟩
theorem B5t {l : TCT An} {os : List Bool} {w fl : Int} {i : Nat} {ms : Af} {e : Int} (h : slE l os w fl i ms = .inr e) : e ≠ 0 := by
 unfold slE at h
 cases h1 : !C1 ms os i || El w fl i with
 | true => rw [h1] at h; cases h
 | false =>
  rw [h1] at h
  cases h2 : Gh l (Ai ms i).1 != 0 with
  | true => rw [h2] at h; cases h; exact bne_iff_ne.1 h2
  | false =>
   rw [h2] at h
   cases h3 : (Ls l (Ai ms i)).2.1 != 0 with
   | true => rw [h3] at h; cases h; decide
   | false => rw [h3] at h; cases h
theorem B5u {bl : List (TCT A4)} {os : List Bool} {i : Nat} {ms : Af} {e : Int} (h : stE bl os i ms = .inr e) : e ≠ 0 := by
 unfold stE at h
 cases h1 : !C1 ms os i with
 | true => rw [h1] at h; cases h
 | false =>
  rw [h1] at h
  cases h3 : (Pz (D9 bl i) (Ai ms i)).2.1 != 0 with
  | true => rw [h3] at h; cases h; exact bne_iff_ne.1 h3
  | false => rw [h3] at h; cases h
theorem B5v {bl : List (TCT A4)} {l : TCT An} {t st : Int} {n : Nat} {s : S2} {e : Int} (h : mvF bl l t st n s = .inr e) : e ≠ 0 := by
 unfold mvF at h
 cases h1 : Ag (stE bl s.2.1) 0 n s.1 with
 | inr e' =>
  rw [h1] at h
  cases h
  obtain ⟨j, t, hj⟩ := G6 _ _ _ _ h1
  exact B5u hj
 | inl ms =>
  rw [h1] at h
  obtain ⟨s', hs'⟩ := Na (A2j (l := l) (t := t) (st := st)) n 0 (ms, s.2.1, s.2.2)
  change Ag (lvE l t st) 0 n (ms, s.2.1, s.2.2) = .inr e at h
  rw [hs'] at h
  cases h
theorem B5w {bl : List (TCT A4)} {c : TCT D5} {t st w fl : Int} {n : Nat} {s : S2} {e : Int} (h : seF bl c t st w fl n s = .inr e) : e ≠ 0 := by
 unfold seF at h
 cases he : (seS bl c w fl n s).2.2.1 != 0 with
 | true => rw [he] at h; cases h; exact bne_iff_ne.1 he
 | false => rw [he] at h; cases h
theorem B5x {b : TCT A4} {c : TCT D5} {ps : Dss} {os : List Bool} {w fl t st : Int} {i k : Nat} {s : MK} {e : Int} (h : bpE b c ps os w fl t st i k s = .inr (.inr e)) : e ≠ 0 := by
 unfold bpE at h
 cases h1 : !C1 s.1 os i || El w fl i with
 | true => rw [h1] at h; cases h
 | false =>
  rw [h1] at h
  cases h2 : (bmV b (Ai s.1 i) (C9 ps k) c).2.1 == 0 with
  | true => rw [h2] at h; cases h
  | false =>
   rw [h2] at h
   cases h3 : (bmV b (Ai s.1 i) (C9 ps k) c).2.1 == 4 with
   | true =>
    rw [h3] at h
    cases h
    exact beq_eq_false_iff_ne.1 h2
   | false => rw [h3] at h; cases h
theorem B5y {bl : List (TCT A4)} {c : TCT D5} {ps : Dss} {t st w fl : Int} {n : Nat} {s : S2} {e : Int} (h : buF bl c ps t st w fl n s = .inr e) : e ≠ 0 := by
 unfold buF at h
 obtain ⟨j, u, hj⟩ := G6 _ _ _ _ h
 unfold boE at hj
 cases hf : Ag (bpE (D9 bl j) c ps s.2.1 w fl t st j) 0 ps.length u with
 | inl a => rw [hf] at hj; cases hj
 | inr y =>
  rw [hf] at hj
  obtain ⟨k, v, hk⟩ := G6 _ _ _ _ hf
  have : y = .inr e := hj
  subst this
  exact B5x hk
theorem B5z {k : CT} {i : Nat} {s : S2} {e : Int} (h : tkE k i s = .inr e) : e ≠ 0 := by
 unfold tkE at h
 cases h1 : mvF k.bl k.l k.t ((i + 1 : Nat) : Int) k.bl.length s with
 | inr e' => rw [h1] at h; cases h; exact B5v h1
 | inl s1 =>
  rw [h1] at h
  simp only at h
  cases h2 : seF k.bl k.c k.t ((i + 1 : Nat) : Int) k.w k.fl k.bl.length s1 with
  | inr e' => rw [h2] at h; cases h; exact B5w h2
  | inl s2 =>
   rw [h2] at h
   simp only at h
   cases h3 : buF k.bl k.c k.ps k.t ((i + 1 : Nat) : Int) k.w k.fl k.bl.length (s2.1, s1.2.1, s2.2) with
   | inr e' => rw [h3] at h; cases h; exact B5y h3
   | inl s3 => rw [h3] at h; cases h
theorem A2p {k : CT} {s : S2} {e : Int} (h : tkF k s = .inr e) : e ≠ 0 := by
 unfold tkF at h
 cases h0 : k.t == 4000 with
 | true => rw [h0] at h; cases h; decide
 | false =>
  rw [h0] at h
  simp only [cond_false] at h
  cases h1 : Ag (slE k.l s.2.1 k.w k.fl) 0 k.bl.length s.1 with
  | inr e' =>
   rw [h1] at h
   cases h
   obtain ⟨j, t, hj⟩ := G6 _ _ _ _ h1
   exact B5t hj
  | inl ms =>
   rw [h1] at h
   obtain ⟨j, t, hj⟩ := G6 _ _ _ _ h
   exact B5z hj
def ctS (g : TCT cGr) (s : TCT cSt) : CT := ⟨A3 g, g.1, g.2.2.1, G1 g.1, s.2.2.1, s.2.2.2.1, s.2.2.2.2.1⟩
abbrev TkR : Type := TCTs [cSt, .sl cKn, cI]
def Gt (e : Int) : TkR := (zS, [], e, ())
def tkR (s : TCT cSt) : S2 ⊕ Int → TkR
 | .inl r => ((r.1, r.2.1, s.2.2.1, max 0 (W64 (s.2.2.2.1 - 1)), W64 (s.2.2.2.2.1 + 1), ()), r.2.2, 0, ())
 | .inr e => Gt e
def tkV (g : TCT cGr) (s : TCT cSt) : TkR := tkR s (tkF (ctS g s) (msT s, osT s, []))
def A0j (g : TCT cGr) (s : TCT cSt) : TkR := bif Ee g s != 0 then Gt (Ee g s) else tkV g s
def Rm (r : TkR) : TkR := (Py r.1, r.2.1, r.2.2.1, ())
abbrev Axd : PureT := B9 [cGr, cSt] [cSt, .sl cKn, cI] (fun x => decide ((x.1.1.1.size : Int) ≤ As .i64)) (fun x => Rm (A0j x.1 x.2.1))
abbrev TTR := Tree TkR
def gT (g : TCT cGr) (s : TCT cSt) : GB := ((g.1.1, g.1.2.1, g.1.2.2.1, g.1.2.2.2.1, g.1.2.2.2.2.1, g.1.2.2.2.2.2.1.1.1, g.1.2.2.2.2.2.1.1.2.1, g.1.2.2.2.2.2.1.2.1, g.1.2.2.2.2.2.2.1, g.1.2.2.2.2.2.2.2.1, g.1.2.2.2.2.2.2.2.2.1, g.2.1, g.2.2.1.1, g.2.2.1.2.1, G1 g.1, ([] ++ s.1), ([] ++ s.2.1), s.2.2.1, s.2.2.2.1, s.2.2.2.2.1, 0, ((), (), ()), ()), ([], ()), ())
def neT {β : Type} {c : Type} (l : List c) (k : Tree β) : Tree β := bif !List.isEmpty l then k else .fail
theorem Rn {β : Type} {c : Type} {l : List c} {k : Tree β} (h : 1 ≤ l.length) : neT l k = k := by
 cases l with
 | nil => simp at h
 | cons _ _ => rfl
def acT {β : Type} {c : Type} (l : List c) (b : Nat) (k : Tree β) : Tree β := bif Ex [] l b then k else .fail
theorem Hz {β : Type} {c : Type} {l : List c} {b : Nat} {k : Tree β} (h : l.length ≤ 1000) (hb : b ≤ 48) : acT l b k = k := by
 unfold acT
 rw [Gi (by simp; omega) hb]; rfl
def Axe (Y : Y2) (g : TCT cGr) (s : TCT cSt) : TTR := szT g.1 (bif Ee g s != 0 then .leaf (Gt (Ee g s)) else szT g.1 (neT (msT s) (acT (msT s) 48 (neT (osT s) (acT (osT s) 1 (
 thY (Y (gT g s)) z2 (fun e => bif e != 0 then .leaf (Gt e) else .fail) fun r => .leaf (tkR s (.inl r))))))))
abbrev Aio : List (Nat × PureT) := (105, U3) :: Vj
theorem Ap1 : By Tryz.prog Aio := A0 is_aO.plain Aw8 Z4
noncomputable def Bha : List (Nat × Func) := [(21, Tryz.f21), (52, Tryz.f52), (54, Tryz.f54), (108, Tryz.f108), (106, Tryz.f106), (107, Tryz.f107)]
noncomputable def Bc8 (Y : Y2) : Ctx := Kj Tryz.prog Aio Bha [] [(68, spYT 67 Y)]
theorem Axf (Y : Y2) (x : TCTs [cGr, cSt]) : C4 (Bc8 Y) 8 (.fn 21) (Ce [cGr, cSt] x) Be 0 (Ft Tryz.prog [cSt, .sl cKn, cI]) = Axe Y x.1 x.2.1 := by kernel_rfl
theorem Axg : CtxOk (Bc8 Hy) := D8 Ab Ap1 (fns_cons is_bg (fns_cons is_bh (fns_cons is_bi (fns_cons is_bj (fns_cons is_bk (fns_cons is_bl A2)))))) G5 (fun p hp => by
 rw [List.mem_singleton] at hp; subst hp; exact ⟨is_bd.plain, Axb⟩)
theorem Ov {l : TCT An} : (G1 l).length ≤ 25 := by
 unfold G1
 cases h : Cn l == 0 with
 | false => show (0 : Nat) ≤ 25; omega
 | true =>
  have k : Cn l = 0 := beq_iff_eq.1 h
  have hh : (Ao l).length ≤ 12 := by
   unfold Cn Lj at k
   cases h1 : decide (((Ao l).length : Int) < 1) || (decide (((Ao l).length : Int) > 12) || decide (((C8 l).length : Int) > 256)) with
   | true => rw [h1] at k; cases k
   | false =>
    simp only [Bool.or_eq_false_iff, decide_eq_false_iff_not] at h1
    omega
  show (D1 l).length ≤ 25
  rw [A0b]
  omega
structure StaOk (g : TCT cGr) (s : TCT cSt) : Prop where
 gr : groE g = 0
 n1 : 1 ≤ (A3 g).length
 n8 : (A3 g).length ≤ 8
 m : (msT s).length = (A3 g).length
 o : (osT s).length = (A3 g).length
 ok : Gy (okS g (osT s)) 0 (msT s) = true
 num : A5t (A3 g).length s = false
theorem Ro {g : TCT cGr} {s : TCT cSt} (h : Ee g s = 0) : StaOk g s := by
 unfold Ee at h
 cases h1 : groE g != 0 with
 | true => rw [h1, cond_true] at h; exact absurd h (bne_iff_ne.1 h1)
 | false =>
  have hg : groE g = 0 := bne_eq_false_iff_eq.1 h1
  rw [h1, cond_false] at h
  unfold vaE at h
  cases h2 : A5u g s with
  | false => rw [h2] at h; cases h
  | true =>
   rw [h2, cond_true] at h
   cases h3 : Gy (okS g (osT s)) 0 (msT s) with
   | false => rw [h3] at h; cases h
   | true =>
    rw [h3, cond_true] at h
    cases h4 : A5t (A3 g).length s with
    | true => rw [h4] at h; cases h
    | false =>
     have a := Awt hg
     have b := Vg h2
     exact ⟨hg, a.1, a.2, b.1, b.2, h3, h4⟩
theorem Afc {g : TCT cGr} {s : TCT cSt} (hs : (g.1.1.size : Int) ≤ As .i64) (h : StaOk g s) : Z8 (gT g s) = true := by
 unfold Z8 Z7 Ou
 simp only [Bool.and_eq_true, decide_eq_true_eq]
 refine ⟨⟨⟨E3.2 ⟨hs, ?_, ?_, h.n8⟩, by show (0 : Nat) ≤ 900000; omega⟩, ?_⟩, by show (0 : Nat) ≤ 700000; omega⟩
 ·show ([] ++ s.1 : Af).length = (A3 g).length
  rw [List.nil_append]; exact h.m
 ·show ([] ++ s.2.1 : List Bool).length = (A3 g).length
  rw [List.nil_append]; exact h.o
 ·have := Ov (l := g.1)
  show (G1 g.1).length ≤ 1000
  omega
theorem Axh {g : TCT cGr} {s : TCT cSt} (hs : (g.1.1.size : Int) ≤ As .i64) (h : StaOk g s) : Hy (gT g s) = some (tkF (ctS g s) (msT s, osT s, [])) := by
 unfold Hy
 rw [Afc hs h]
 rfl
theorem Axi {g : TCT cGr} {s : TCT cSt} (hs : (g.1.1.size : Int) ≤ As .i64) : (Axe Hy g s).sat (fun y => y = Rm (A0j g s)) := by
 unfold Axe A0j
 rw [Bz hs, Bz hs]
 cases h1 : Ee g s != 0 with
 | true => exact rfl
 | false =>
  have h := Ro (bne_eq_false_iff_eq.1 h1)
  have hn1 := h.n1
  have hn8 := h.n8
  have hm := h.m
  have ho := h.o
  simp only [cond_false]
  rw [Rn (by omega), Hz (by omega) (by decide), Rn (by omega), Hz (by omega) (by decide)]
  have hy := Axh hs h
  unfold tkV
  cases hf : tkF (ctS g s) (msT s, osT s, []) with
  | inl r => rw [hf] at hy; rw [Q1 hy]; exact rfl
  | inr e =>
   rw [hf] at hy
   rw [Q2 hy, show (e != 0) = true from bne_iff_ne.2 (A2p hf)]
   exact rfl
theorem Axj : A7 Tryz.prog 21 Axd := B6 Axg 8 (fun x => Axe Hy x.1 x.2.1) (Axf Hy) fun x hok _ => Axi (of_decide_eq_true hok)
end St
def Afd (cs rs : List TC) (ok : TCTs cs → Bool) (F : TCTs cs → TCTs rs) : PureT :=
 {
  run := fun l => match Kb cs l with
   | some x => fcTs cs x fun x => fcTs rs (F x) fun y => some (ok x, Ak0 rs y)
   | none => none
  flat := noSls rs }
theorem Ap2 (cs rs : List TC) (ok : TCTs cs → Bool) (F : TCTs cs → TCTs rs) : Afd cs rs ok F = B9 cs rs ok F := by
 unfold Afd B9
 congr 1
 funext l
 cases Kb cs l with
 | none => rfl
 | some x => simp only [fcTs_eq]
theorem Ap3 {P : Program} {f : FuncId} {cs rs : List TC} {ok : TCTs cs → Bool} {F : TCTs cs → TCTs rs} (h : A7 P f (B9 cs rs ok F)) : A7 P f (Afd cs rs ok F) := by rw [Ap2]; exact h
mutual
def Axk : (c : TC) → (x y : TCT c) → Decidable (x = y)
 | .b, x, y => instDecidableEqBool x y
 | .i _, x, y => Int.instDecidableEq x y
 | .s, x, y => ByteArray.instDecidableEq x y
 | .sl c, x, y => @instDecidableEqList _ (fun a b => Axk c a b) x y
 | .st cs, x, y => decs4 cs x y
def decs4 : (cs : List TC) → (x y : TCTs cs) → Decidable (x = y)
 | [], (), () => isTrue rfl
 | c :: cs, (a, b), (d, e) => match Axk c a d with
  | isTrue h => match decs4 cs b e with
   | isTrue k => isTrue (by rw [h, k])
   | isFalse k => isFalse fun e => k (Prod.mk.inj e).2
  | isFalse h => isFalse fun e => h (Prod.mk.inj e).1
end
namespace St
theorem is_bm : FnIs Tryz.prog (15, Tryz.f15) := ⟨Tryz.func15, by kernel_rfl, by kernel_rfl⟩
theorem is_bn : FnIs Tryz.prog (44, Tryz.f44) := ⟨Tryz.func44, by kernel_rfl, by kernel_rfl⟩
theorem is_bo : FnIs Tryz.prog (45, Tryz.f45) := ⟨Tryz.func45, by kernel_rfl, by kernel_rfl⟩
theorem is_bp : FnIs Tryz.prog (46, Tryz.f46) := ⟨Tryz.func46, by kernel_rfl, by kernel_rfl⟩
theorem is_bq : FnIs Tryz.prog (16, Tryz.f16) := ⟨Tryz.func16, by kernel_rfl, by kernel_rfl⟩
def exL : TCT An := (⟨#[103, 114, 101, 101, 110]⟩, 100000, 200000, 5000, [(50000, 40000, 6000, 500, false, ()), (30000, 100000, 6000, 500, true, ())], ((50000, 100000, ()), 1200, ()), 2, 1, [(10000, 0, 0, ()), (10000, 0, 0, ())], ())
def exG : TCT cGr := (exL, [(450, 2946, ()), (450, 2946, ())], (800, 0, ()), ())
def exS : TCT cSt := ([((50000, 60000, ()), (0, 200000, ()), (0, 0, ()), ()), ((80000, 60000, ()), (0, 0, ()), (0, 0, ()), ())], [false, false], 0, 0, 0, ())
def ex1 : Af := [((50000, 60000, ()), (0, 190000, ()), (0, 0, ()), ()), ((80000, 60000, ()), (0, 0, ()), (0, 0, ()), ())]
def ex2 : Af := [((50000, 60106, ()), (0, 190000, ()), (0, -12800, ()), ()), ((80000, 60000, ()), (0, 0, ()), (0, 0, ()), ())]
def exR : TkR := ((ex2, [false, false], 0, 0, 1, ()), [], 0, ())
theorem B60 : slN 0 200000 = 1600000 := A0z _ _ (by decide) (by decide) (by decide)
theorem Axl : Ls exL (Ai (msT exS) 0) = ((0, 190000, ()), 0, ()) := by
 show Jd 0 200000 10000 = _
 unfold Jd
 rw [B60]
 rfl
theorem B61 : slE exL [false, false] 0 0 0 (msT exS) = .inl ex1 := by
 unfold slE Aai
 rw [Axl]
 kernel_rfl
theorem B62 : slE exL [false, false] 0 0 1 ex1 = .inl ex1 := by kernel_rfl
theorem Bc9 : Ag (tkE (ctS exG exS)) 0 16 (ex1, [false, false], []) = .inl (ex2, [false, false], []) := by kernel_rfl
theorem B63 : Ee exG exS = 0 := by kernel_rfl
theorem B64 {k : CT} {s : S2} {ms : Af} {r : S2 ⊕ Int} (h0 : (k.t == 4000) = false) (h1 : Ag (slE k.l s.2.1 k.w k.fl) 0 k.bl.length s.1 = .inl ms) (h2 : Ag (tkE k) 0 16 (ms, s.2.1, s.2.2) = r) : tkF k s = r := by
 unfold tkF
 rw [h0]
 simp only [cond_false]
 rw [h1]
 exact h2
theorem Aip {S B : Type} {f : Nat → S → S ⊕ B} {s s1 s2 : S} (h0 : f 0 s = .inl s1) (h1 : f 1 s1 = .inl s2) : Ag f 0 2 s = .inl s2 := by
 unfold Ag
 rw [h0]
 show Ag f 1 1 s1 = _
 unfold Ag
 rw [h1]
 rfl
theorem B65 : tkF (ctS exG exS) (msT exS, osT exS, []) = .inl (ex2, [false, false], []) := B64 (by kernel_rfl) (Aip B61 B62) Bc9
theorem Ap4 : A0j exG exS = exR := by
 unfold A0j tkV
 rw [B63, B65]
 rfl
def B66 (g : TCT cGr) (s : TCT cSt) : Bool := match Axk cGr g exG, Axk cSt s exS with
 | isTrue _, isTrue _ => true
 | _, _ => false
theorem Axm {g : TCT cGr} {s : TCT cSt} (h : B66 g s = true) : g = exG ∧ s = exS := by
 unfold B66 at h
 split at h
 ·rename_i h1 h2 _ _
  exact ⟨h1, h2⟩
 ·cases h
abbrev Afe : PureT := B9 [cGr, cSt] [cSt, .sl cKn, cI] (fun x => B66 x.1 x.2.1) (fun _ => exR)
theorem Axn : A7 Tryz.prog 21 Afe := B9r Axj fun x _ h => by
 obtain ⟨g, s, ⟨⟩⟩ := x
 obtain ⟨rfl, rfl⟩ := Axm h
 exact ⟨by kernel_rfl, by
  show exR = Rm (A0j exG exS)
  rw [Ap4]
  rfl⟩
def Aiq : PureT := Afd [.sl A4, .sl Aj, D5] [.sl Aj, .sl Eg, cI] (fun _ => true) (fun x => ((C3 x.1 x.2.1 x.2.2.1.1 x.2.2.1.2.1).1, (C3 x.1 x.2.1 x.2.2.1.1 x.2.2.1.2.1).2.1, (C3 x.1 x.2.1 x.2.2.1.1 x.2.2.1.2.1).2.2.1, ()))
def B67 : List (Nat × PureT) := (114, Aiq) :: (56, N6) :: Aio
theorem Bca : By Tryz.prog B67 := A0 is_Settle.plain (Ap3 A7n) (A0 is_b1.plain Ahy Ap1)
noncomputable def Ap5 : Ctx := Al1 20 Tryz.prog B67 Bbe
theorem U7 : CtxOk Ap5 := Uy Ab Bca Aee
noncomputable def Bhb : List (Nat × PureT) := (44, Yw Ap5 40 44 [] [cGr]) :: (45, Yw Ap5 40 45 [cI, cI] [cSt]) :: (46, Yw Ap5 40 46 [] [cBl]) :: (21, Afe) :: (16, Yw Ap5 60 16 [cGr, cSt, cBl] [cSt, .sl cKn, cI]) :: B67
theorem Bhc : By Tryz.prog Bhb := A0 is_bn.plain (Rd U7 _ _ _ _) (A0 is_bo.plain (Rd U7 _ _ _ _) (A0 is_bp.plain (Rd U7 _ _ _ _) (A0 is_bg.plain Axn (A0 is_bq.plain (Rd U7 _ _ _ _) Bca (Hc rfl)) (Hc rfl)) (Hc rfl)) (Hc rfl)) (Hc rfl)
abbrev Aff : PureT := B9 [] [.b] (fun _ => true) (fun _ => (true, ()))
set_option maxRecDepth 100000 in
theorem Ap6 : A7 Tryz.prog 15 Aff := Sf (Uy (u := 20) Ab Bhc Aee) 60 (fun _ => by kernel_rfl)
end St
noncomputable def eqC {α : Type} (a b : α) : Bool := @decide (a = b) (Classical.propDecidable _)
theorem Afg {α : Type} {a b : α} (h : a = b) : eqC a b = true := by unfold eqC; exact @decide_eq_true _ (Classical.propDecidable _) h
theorem Afh {α : Type} {a b : α} (h : eqC a b = true) : a = b := by unfold eqC at h; exact @of_decide_eq_true _ (Classical.propDecidable _) h
namespace St
theorem Afi {G E α : Type} {st : G → Tree (G ⊕ E)} (l : List α) (d : α) (hd : Int → G) (eq : α → α → Bool) (hr : ∀ x, eq x x = true) (rt ex : E) (hl : (l.length : Int) ≤ As .i64)
  (h : ∀ i : Int, st (hd i) = bif decide (i < (l.length : Int)) then inN l.length i (inN l.length i (bif !eq (At l (Int.toNat i) d) (At l (Int.toNat i) d) then .leaf (.inr rt) else .leaf (.inl (hd (W64 (i + 1)))))) else .leaf (.inr ex)) : iter st (l.length + 1) (hd 0) = some ex := by
 refine Ef (B := Empty) l.length (fun i _ => hd i) (fun _ (_ : Unit) => .inl ()) (fun _ => ex) (fun _ _ => True) (fun i s hi _ => ?_) (fun _ _ _ _ _ _ => trivial) (fun s _ => ?_) l.length 0 () (by omega) trivial
 ·rw [h, decide_eq_true (show (i : Int) < (l.length : Int) by omega), Ci (by omega), Ci (by omega), hr, Bs hi hl]
  rfl
 ·rw [h, decide_eq_false (show ¬ (l.length : Int) < (l.length : Int) by omega)]
  rfl
def Axo (a b : TCT cPt) : Bool := a.1 == b.1 && (a.2.1 == b.2.1 && true)
def Axp (a b : TCT Aj) : Bool := (a.1.1 == b.1.1 && (a.1.2.1 == b.1.2.1 && true)) && ((a.2.1.1 == b.2.1.1 && (a.2.1.2.1 == b.2.1.2.1 && true)) && ((a.2.2.1.1 == b.2.2.1.1 && (a.2.2.1.2.1 == b.2.2.1.2.1 && true)) && true))
def Axq (a b : TCT cKn) : Bool := a.1 == b.1 && (a.2.1 == b.2.1 && (a.2.2.1 == b.2.2.1 && (a.2.2.2.1 == b.2.2.2.1 && (a.2.2.2.2.1 == b.2.2.2.2.1 && true))))
theorem B68 (a : TCT cPt) : Axo a a = true := by simp only [Axo, beq_self_eq_true, Bool.and_self]
theorem B69 (a : TCT Aj) : Axp a a = true := by simp only [Axp, beq_self_eq_true, Bool.and_self]
theorem B6a (a : TCT cKn) : Axq a a = true := by simp only [Axq, beq_self_eq_true, Bool.and_self]
def neN {β : Type} (a b : Nat) (t k : Tree β) : Tree β := bif (a : Int) != (b : Int) then t else k
theorem Afj {β : Type} {a : Nat} {t k : Tree β} : neN a a t k = k := by unfold neN; rw [show ((a : Int) != (a : Int)) = false from bne_self_eq_false _]; rfl
theorem is_br : FnIs Tryz.prog (66, Tryz.f66) := ⟨Tryz.func66, by kernel_rfl, by kernel_rfl⟩
noncomputable def B6b : Code := (A8 (bodyOf Tryz.f66)).getD 0 .skip
def Sr : Lay := { keys := [0, 1, 5], ks := [.d (.sl Aj), .d (.sl Aj), .d cI], bs := [], n := 26, nx := 1000, marks := [] }
def Bcb : Lay := { keys := [], ks := [], bs := [], n := 26, nx := 1000, marks := [] }
def B6c : Lay := { keys := [4], ks := [.d .b], bs := [], n := 26, nx := 1000, marks := [] }
def Ss : XE → Lay := fun e => match e with | .ret => B6c | _ => Bcb
def Ab1 (a b : List (TCT Aj)) (i : Int) : Sr.T := ((a, b, i, ()), ())
def Ap7 : A1 Ss := ⟨.ret, ((false, ()), ())⟩
def Ap8 : A1 Ss := ⟨.exit 0, ((), ())⟩
def Axr (a b : List (TCT Aj)) (i : Int) : Tree (Sr.T ⊕ A1 Ss) := bif decide (i < (a.length : Int)) then inN a.length i (inN b.length i (bif !Axp (At a (Int.toNat i) (Aq Aj)) (At b (Int.toNat i) (Aq Aj)) then .leaf (.inr Ap7) else .leaf (.inl (Ab1 a b (W64 (i + 1)))))) else .leaf (.inr Ap8)
def A2q (g : Sr.T) : Tree (Sr.T ⊕ A1 Ss) := Axr g.1.1 g.1.2.1 g.1.2.2.1
def Ab2 (g : Sr.T) : Nat := (g.1.1 : List (TCT Aj)).length + 1
theorem Bcc : Ae Tryz.prog 66 B6b (A9 Sr Ss (Bu [.ret, .exit 0] A2q Ab2)) := Aw (Ad Ab Aa A2) 7 _ Sr Ss (fun e => by cases e <;> exact Nat.le_refl _) [.ret, .exit 0] A2q Ab2 (fun g => by kernel_rfl)
noncomputable abbrev B2a : PureT := B9 [.sl Aj, .sl Aj] [.b] (fun x => eqC x.1 x.2.1) (fun _ => (true, ()))
noncomputable def Bcd : Ctx := Gu Tryz.prog [] [(66, Tryz.f66)] [((66, 4), A9 Sr Ss (Bu [.ret, .exit 0] A2q Ab2))]
theorem Ap9 : CtxOk Bcd := Bx Ab Aa (fns_cons is_br A2) (Bg (by kernel_rfl) (by kernel_rfl) Bcc)
def Afk (a b : List (TCT Aj)) : Option (A1 Ss) := iter A2q (a.length + 1) (Ab1 a b 0)
def Apa (a b : List (TCT Aj)) : TBo := neN a.length b.length (.leaf (false, ())) (bif isE .ret (Afk a b) then .leaf ((B7 .ret (Afk a b)).1.1, ()) else bif isE (.exit 0) (Afk a b) then .leaf (true, ()) else .fail)
theorem Bce : A7 Tryz.prog 66 B2a := B6 Ap9 7 (fun x => Apa x.1 x.2.1) (fun x => by kernel_rfl) fun x hok hw => by
 have e : x.1 = x.2.1 := Afh hok
 show (Apa x.1 x.2.1).sat (fun y => y = (true, ()))
 rw [← e]
 have hy : Afk x.1 x.1 = some Ap8 := Afi (α := TCT Aj) x.1 (Aq Aj) (Ab1 x.1 x.1) Axp B69 Ap7 _ (Es hw.1) (fun _ => rfl)
 unfold Apa
 rw [Afj, hy]
 exact rfl
theorem is_bs : FnIs Tryz.prog (19, Tryz.f19) := ⟨Tryz.func19, by kernel_rfl, by kernel_rfl⟩
noncomputable def B6d : Code := (A8 (bodyOf Tryz.f19)).getD 0 .skip
def Su : Lay := { keys := [0, 1, 5], ks := [.d (.sl cKn), .d (.sl cKn), .d cI], bs := [], n := 26, nx := 1000, marks := [] }
def Bcf : Lay := { keys := [], ks := [], bs := [], n := 26, nx := 1000, marks := [] }
def B6e : Lay := { keys := [4], ks := [.d .b], bs := [], n := 26, nx := 1000, marks := [] }
def Sv : XE → Lay := fun e => match e with | .ret => B6e | _ => Bcf
def Ab3 (a b : List (TCT cKn)) (i : Int) : Su.T := ((a, b, i, ()), ())
def Apb : A1 Sv := ⟨.ret, ((false, ()), ())⟩
def Apc : A1 Sv := ⟨.exit 0, ((), ())⟩
def Axs (a b : List (TCT cKn)) (i : Int) : Tree (Su.T ⊕ A1 Sv) := bif decide (i < (a.length : Int)) then inN a.length i (inN b.length i (bif !Axq (At a (Int.toNat i) (Aq cKn)) (At b (Int.toNat i) (Aq cKn)) then .leaf (.inr Apb) else .leaf (.inl (Ab3 a b (W64 (i + 1)))))) else .leaf (.inr Apc)
def A2r (g : Su.T) : Tree (Su.T ⊕ A1 Sv) := Axs g.1.1 g.1.2.1 g.1.2.2.1
def Ab4 (g : Su.T) : Nat := (g.1.1 : List (TCT cKn)).length + 1
theorem Bcg : Ae Tryz.prog 19 B6d (A9 Su Sv (Bu [.ret, .exit 0] A2r Ab4)) := Aw (Ad Ab Aa A2) 7 _ Su Sv (fun e => by cases e <;> exact Nat.le_refl _) [.ret, .exit 0] A2r Ab4 (fun g => by kernel_rfl)
noncomputable abbrev B2b : PureT := B9 [.sl cKn, .sl cKn] [.b] (fun x => eqC x.1 x.2.1) (fun _ => (true, ()))
noncomputable def Bch : Ctx := Gu Tryz.prog [] [(19, Tryz.f19)] [((19, 4), A9 Su Sv (Bu [.ret, .exit 0] A2r Ab4))]
theorem Apd : CtxOk Bch := Bx Ab Aa (fns_cons is_bs A2) (Bg (by kernel_rfl) (by kernel_rfl) Bcg)
def Afl (a b : List (TCT cKn)) : Option (A1 Sv) := iter A2r (a.length + 1) (Ab3 a b 0)
def Ape (a b : List (TCT cKn)) : TBo := neN a.length b.length (.leaf (false, ())) (bif isE .ret (Afl a b) then .leaf ((B7 .ret (Afl a b)).1.1, ()) else bif isE (.exit 0) (Afl a b) then .leaf (true, ()) else .fail)
theorem Bci : A7 Tryz.prog 19 B2b := B6 Apd 7 (fun x => Ape x.1 x.2.1) (fun x => by kernel_rfl) fun x hok hw => by
 have e : x.1 = x.2.1 := Afh hok
 show (Ape x.1 x.2.1).sat (fun y => y = (true, ()))
 rw [← e]
 have hy : Afl x.1 x.1 = some Apc := Afi (α := TCT cKn) x.1 (Aq cKn) (Ab3 x.1 x.1) Axq B6a Apb _ (Es hw.1) (fun _ => rfl)
 unfold Ape
 rw [Afj, hy]
 exact rfl
theorem is_bt : FnIs Tryz.prog (41, Tryz.f41) := ⟨Tryz.func41, by kernel_rfl, by kernel_rfl⟩
noncomputable def B6f : Code := (A8 (bodyOf Tryz.f41)).getD 0 .skip
def Sw : Lay := { keys := [0, 1, 5], ks := [.d (.sl cPt), .d (.sl cPt), .d cI], bs := [], n := 26, nx := 1000, marks := [] }
def Bcj : Lay := { keys := [], ks := [], bs := [], n := 26, nx := 1000, marks := [] }
def B6g : Lay := { keys := [4], ks := [.d .b], bs := [], n := 26, nx := 1000, marks := [] }
def Sx : XE → Lay := fun e => match e with | .ret => B6g | _ => Bcj
def Ab5 (a b : List (TCT cPt)) (i : Int) : Sw.T := ((a, b, i, ()), ())
def Apf : A1 Sx := ⟨.ret, ((false, ()), ())⟩
def Apg : A1 Sx := ⟨.exit 0, ((), ())⟩
def Axt (a b : List (TCT cPt)) (i : Int) : Tree (Sw.T ⊕ A1 Sx) := bif decide (i < (a.length : Int)) then inN a.length i (inN b.length i (bif !Axo (At a (Int.toNat i) (Aq cPt)) (At b (Int.toNat i) (Aq cPt)) then .leaf (.inr Apf) else .leaf (.inl (Ab5 a b (W64 (i + 1)))))) else .leaf (.inr Apg)
def A2s (g : Sw.T) : Tree (Sw.T ⊕ A1 Sx) := Axt g.1.1 g.1.2.1 g.1.2.2.1
def Ab6 (g : Sw.T) : Nat := (g.1.1 : List (TCT cPt)).length + 1
theorem Bck : Ae Tryz.prog 41 B6f (A9 Sw Sx (Bu [.ret, .exit 0] A2s Ab6)) := Aw (Ad Ab Aa A2) 7 _ Sw Sx (fun e => by cases e <;> exact Nat.le_refl _) [.ret, .exit 0] A2s Ab6 (fun g => by kernel_rfl)
noncomputable abbrev B2c : PureT := B9 [.sl cPt, .sl cPt] [.b] (fun x => eqC x.1 x.2.1) (fun _ => (true, ()))
noncomputable def Bcl : Ctx := Gu Tryz.prog [] [(41, Tryz.f41)] [((41, 4), A9 Sw Sx (Bu [.ret, .exit 0] A2s Ab6))]
theorem Aph : CtxOk Bcl := Bx Ab Aa (fns_cons is_bt A2) (Bg (by kernel_rfl) (by kernel_rfl) Bck)
def Afm (a b : List (TCT cPt)) : Option (A1 Sx) := iter A2s (a.length + 1) (Ab5 a b 0)
def Api (a b : List (TCT cPt)) : TBo := neN a.length b.length (.leaf (false, ())) (bif isE .ret (Afm a b) then .leaf ((B7 .ret (Afm a b)).1.1, ()) else bif isE (.exit 0) (Afm a b) then .leaf (true, ()) else .fail)
theorem Bcm : A7 Tryz.prog 41 B2c := B6 Aph 7 (fun x => Api x.1 x.2.1) (fun x => by kernel_rfl) fun x hok hw => by
 have e : x.1 = x.2.1 := Afh hok
 show (Api x.1 x.2.1).sat (fun y => y = (true, ()))
 rw [← e]
 have hy : Afm x.1 x.1 = some Apg := Afi (α := TCT cPt) x.1 (Aq cPt) (Ab5 x.1 x.1) Axo B68 Apf _ (Es hw.1) (fun _ => rfl)
 unfold Api
 rw [Afj, hy]
 exact rfl
theorem is_bu : FnIs Tryz.prog (18, Tryz.f18) := ⟨Tryz.func18, by kernel_rfl, by kernel_rfl⟩
noncomputable def Bcn : Code := (A8 (bodyOf Tryz.f18)).getD 0 .skip
def Ab7 : Lay := { keys := [2, 3, 5], ks := [.p 0 0 0 0, .p 1 0 0 0, .d cI], bs := [(0, 38, kSt), (1, 38, kSt)], n := 57, nx := 1000, marks := [] }
def Bhd : Lay := { keys := [2, 3], ks := [.p 0 0 0 0, .p 1 0 0 0], bs := [(0, 38, kSt), (1, 38, kSt)], n := 57, nx := 1000, marks := [] }
def Bco : Lay := { keys := [4], ks := [.d .b], bs := [], n := 57, nx := 1000, marks := [] }
def A6d : XE → Lay := fun e => match e with | .ret => Bco | _ => Bhd
def Apj (a b : SKTs kSt) (i : Int) : Ab7.T := (((), (), i, ()), (a, b, ()))
def B2d : A1 A6d := ⟨.ret, ((false, ()), ())⟩
def B2e (a b : SKTs kSt) : A1 A6d := ⟨.exit 0, (((), (), ()), (a, b, ()))⟩
def Bcp (a b : Bool) : Bool := a == b
def Afn (g : Ab7.T) : Tree (Ab7.T ⊕ A1 A6d) := bif decide (g.1.2.2.1 < ((otS g.2.1).length : Int)) then inN (otS g.2.1).length g.1.2.2.1 (inN (otS g.2.2.1).length g.1.2.2.1 (
 bif !Bcp (At (otS g.2.1) (Int.toNat g.1.2.2.1) (Aq .b)) (At (otS g.2.2.1) (Int.toNat g.1.2.2.1) (Aq .b)) then .leaf (.inr B2d) else .leaf (.inl (Apj g.2.1 g.2.2.1 (W64 (g.1.2.2.1 + 1)))))) else .leaf (.inr (B2e g.2.1 g.2.2.1))
def Apk (g : Ab7.T) : Nat := (otS g.2.1).length + 1
theorem Bhe : Ae Tryz.prog 18 Bcn (A9 Ab7 A6d (Bu [.ret, .exit 0] Afn Apk)) := Aw (Ad Ab Aa A2) 7 _ Ab7 A6d (fun e => by cases e <;> exact Nat.le_refl _) [.ret, .exit 0] Afn Apk (fun g => by kernel_rfl)
noncomputable abbrev Apl : PureT := B9 [cSt, cSt] [.b] (fun x => eqC x.1 x.2.1) (fun _ => (true, ()))
noncomputable def Bcq : List (Nat × PureT) := [(66, B2a)]
theorem Bcr : By Tryz.prog Bcq := A0 is_br.plain Bce Aa
noncomputable def Bhf : Ctx := Gu Tryz.prog Bcq [(18, Tryz.f18)] [((18, 4), A9 Ab7 A6d (Bu [.ret, .exit 0] Afn Apk))]
theorem Axu : CtxOk Bhf := Bx Ab Bcr (fns_cons is_bu A2) (Bg (by kernel_rfl) (by kernel_rfl) Bhe)
def Bcs (a b : TCT cSt) : Option (A1 A6d) := iter Afn ((osT a).length + 1) (Apj (K4 a) (K4 b) 0)
def neI {β : Type} (a b : Int) (t k : Tree β) : Tree β := bif a != b then t else k
theorem Apm {β : Type} {a : Int} {t k : Tree β} : neI a a t k = k := by unfold neI; rw [bne_self_eq_false]; rfl
def fB : TBo := .leaf (false, ())
noncomputable def Bhg (y : Option (A1 A6d)) : TBo := bif isE .ret y then .leaf ((B7 .ret y).1.1, ()) else bif isE (.exit 0) y then bif eqC (msS (B7 (.exit 0) y).2.1) (msS (B7 (.exit 0) y).2.2.1) then .leaf (true, ()) else .fail else .fail
noncomputable def B6h (a b : TCT cSt) : TBo := neN (osT a).length (osT b).length fB (neI a.2.2.1 b.2.2.1 fB (neI a.2.2.2.1 b.2.2.2.1 fB (neI a.2.2.2.2.1 b.2.2.2.2.1 fB (Bhg (Bcs a b)))))
theorem B6i : A7 Tryz.prog 18 Apl := B6 Axu 7 (fun x => B6h x.1 x.2.1) (fun x => by kernel_rfl) fun x hok hw => by
 have e : x.1 = x.2.1 := Afh hok
 show (B6h x.1 x.2.1).sat (fun y => y = (true, ()))
 rw [← e]
 have hy : Bcs x.1 x.1 = some (B2e (K4 x.1) (K4 x.1)) := Afi (osT x.1) (Aq .b) (Apj (K4 x.1) (K4 x.1)) Bcp (fun b => by cases b <;> rfl) B2d _ (Es hw.1.2.1) (fun _ => rfl)
 unfold B6h
 rw [Afj, Apm, Apm, Apm, hy]
 show (bif eqC (msT x.1) (msT x.1) then _ else _ : TBo).sat _
 rw [Afg rfl]
 exact rfl
end St
end V
end Go.Proofs.YtkiaifmbbnnliaaGreat
