import Derived.Test.YtkiaifmbbnnliaaGreatBA
namespace Go.Proofs.YtkiaifmbbnnliaaGreat
open Go.RowKit
namespace V
namespace St
abbrev kPt : List SK := [.d cI, .d cI]
def p0 : SKTs kPt := (0, 0, ())
end St
end V
end Go.Proofs.YtkiaifmbbnnliaaGreat
namespace Go.Proofs.YtkiaifmbbnnliaaGreat
open Go.RowKit
namespace V
def isL {A B : Type} : Option (A ⊕ B) → Bool
  | some (.inl _) => true
  | _ => false
def isR {A B : Type} : Option (A ⊕ B) → Bool
  | some (.inr _) => true
  | _ => false
def gL {A B : Type} (d : A) : Option (A ⊕ B) → A
  | some (.inl a) => a
  | _ => d
def gR {A B : Type} (d : B) : Option (A ⊕ B) → B
  | some (.inr b) => b
  | _ => d
def FLay.dfl (F : FLay) : F.T := (dflKs F.ks, dflB F.bs)
theorem sat_loose4 {α : Type} {t : Tree α} {R S : α → Prop} (h : t.sat R) (k : ∀ x, R x → S x) : t.sat S := by
  induction t with
  | leaf a => exact k a h
  | need p t ih => exact ⟨h.1, ih h.2⟩
  | br c t e i1 i2 => exact ⟨fun x => i1 (h.1 x), fun x => i2 (h.2 x)⟩
  | fail => exact h
def finC {L : FLay} {E : Bool → FLay} (c : L.T → Bool) (r : L.T → (E true).T) (g : L.T) : Tree (LeftF E) := .br (c g) (.leaf ⟨true, r g⟩) .fail
theorem fspecC {X : Ctx} (hX : CtxOk X) {f : FuncId} (m : Nat) {probe : Heap → List AV → Option (List Nat)} {L : FLay} {E : Bool → FLay} (hE : ∀ b, L.nx ≤ (E b).nx) (c : L.T → Bool) (r : L.T → (E true).T) (T : L.T → Tree (LeftF E))
    (he : ∀ g, evBody X (evFn X m) f (ofKs L.ks g.1 L.nx) (L.lay.hp g) (L.lay.of g).nx (foutK E) = T g)
    (h : ∀ g, L.lay.WF g → c g = true → (T g).run = some ⟨true, r g⟩) : SpecOk X.P f (fspec probe L E (finC c r)) :=
  fspec_ok hX m hE fun g R hw hf => by
    rw [he]
    cases hc : c g with
    | false => exact (hf.2 hc).elim
    | true => exact sat_loose4 (Tree.sat_run (h g hw hc) (hf.1 hc)) fun x hx _ => hx
namespace St
theorem is_rolls : FnIs Tryz.prog (159, Tryz.f159) := ⟨Tryz.func159, by kernel_rfl, by kernel_rfl⟩
theorem is_flies : FnIs Tryz.prog (113, Tryz.f113) := ⟨Tryz.func113, by kernel_rfl, by kernel_rfl⟩
theorem is_knock : FnIs Tryz.prog (115, Tryz.f115) := ⟨Tryz.func115, by kernel_rfl, by kernel_rfl⟩
theorem is_must : FnIs Tryz.prog (57, Tryz.f57) := ⟨Tryz.func57, by kernel_rfl, by kernel_rfl⟩
theorem is_gslow : FnIs Tryz.prog (122, Tryz.f122) := ⟨Tryz.func122, by kernel_rfl, by kernel_rfl⟩
theorem is_gmove : FnIs Tryz.prog (123, Tryz.f123) := ⟨Tryz.func123, by kernel_rfl, by kernel_rfl⟩
theorem is_gsettle : FnIs Tryz.prog (58, Tryz.f58) := ⟨Tryz.func58, by kernel_rfl, by kernel_rfl⟩
theorem is_gbump : FnIs Tryz.prog (124, Tryz.f124) := ⟨Tryz.func124, by kernel_rfl, by kernel_rfl⟩
theorem is_gtick : FnIs Tryz.prog (68, Tryz.f68) := ⟨Tryz.func68, by kernel_rfl, by kernel_rfl⟩
theorem is_Tick1 : FnIs Tryz.prog (67, Tryz.f67) := ⟨Tryz.func67, by kernel_rfl, by kernel_rfl⟩
theorem is_Strike1 : FnIs Tryz.prog (53, Tryz.f53) := ⟨Tryz.func53, by kernel_rfl, by kernel_rfl⟩
theorem is_run1 : FnIs Tryz.prog (144, Tryz.f144) := ⟨Tryz.func144, by kernel_rfl, by kernel_rfl⟩
abbrev kGm (f : Nat) : List SK := [.d .s, .d cI, .d cI, .d cI, .d (.sl cHoop), .d cI, .d cI, .d cI, .d cI, .d cI, .d (.sl cCell), .d (.sl cBall), .d cI, .d cI, .d (.sl cDisc), .w 2 62 cMot, .o 4 .b, .d cI, .d cI, .d cI, .d cI, .f f [] [.p 1 0 0 0]]
abbrev bsG (f : Nat) : List BK := [(0, 99, kGm f), (1, 43, [.o 57 cKn])]
abbrev GM : Type := SKTs (kGm 0)
abbrev Kns : Type := List (TCT cKn)
abbrev Mots : Type := List (TCT cMot)
def gmX (m : GM) : SKTs kGr := (m.1, m.2.1, m.2.2.1, m.2.2.2.1, m.2.2.2.2.1, m.2.2.2.2.2.1, m.2.2.2.2.2.2.1, m.2.2.2.2.2.2.2.1, m.2.2.2.2.2.2.2.2.1, m.2.2.2.2.2.2.2.2.2.1, m.2.2.2.2.2.2.2.2.2.2.1, m.2.2.2.2.2.2.2.2.2.2.2.1, m.2.2.2.2.2.2.2.2.2.2.2.2.1, m.2.2.2.2.2.2.2.2.2.2.2.2.2.1, ())
def gmP (m : GM) : List (TCT cDisc) := m.2.2.2.2.2.2.2.2.2.2.2.2.2.2.1
def gmM (m : GM) : Mots := m.2.2.2.2.2.2.2.2.2.2.2.2.2.2.2.1
def gmO (m : GM) : List Bool := m.2.2.2.2.2.2.2.2.2.2.2.2.2.2.2.2.1
def gmW (m : GM) : Int := m.2.2.2.2.2.2.2.2.2.2.2.2.2.2.2.2.2.1
def gmF (m : GM) : Int := m.2.2.2.2.2.2.2.2.2.2.2.2.2.2.2.2.2.2.1
def gmT (m : GM) : Int := m.2.2.2.2.2.2.2.2.2.2.2.2.2.2.2.2.2.2.2.1
def gmS (m : GM) : Int := m.2.2.2.2.2.2.2.2.2.2.2.2.2.2.2.2.2.2.2.2.1
def gmU (m : GM) (ms : Mots) (os : List Bool) : GM := (m.1, m.2.1, m.2.2.1, m.2.2.2.1, m.2.2.2.2.1, m.2.2.2.2.2.1, m.2.2.2.2.2.2.1, m.2.2.2.2.2.2.2.1, m.2.2.2.2.2.2.2.2.1, m.2.2.2.2.2.2.2.2.2.1, m.2.2.2.2.2.2.2.2.2.2.1, m.2.2.2.2.2.2.2.2.2.2.2.1, m.2.2.2.2.2.2.2.2.2.2.2.2.1, m.2.2.2.2.2.2.2.2.2.2.2.2.2.1, m.2.2.2.2.2.2.2.2.2.2.2.2.2.2.1, ms, os, m.2.2.2.2.2.2.2.2.2.2.2.2.2.2.2.2.2.1, m.2.2.2.2.2.2.2.2.2.2.2.2.2.2.2.2.2.2.1, m.2.2.2.2.2.2.2.2.2.2.2.2.2.2.2.2.2.2.2.1, m.2.2.2.2.2.2.2.2.2.2.2.2.2.2.2.2.2.2.2.2.1, m.2.2.2.2.2.2.2.2.2.2.2.2.2.2.2.2.2.2.2.2.2.1, ())
def gmB (m : GM) : List (TCT cBall) := blX (gmX m)
def gmL (m : GM) : TCT cLawn := lwG (gmX m)
abbrev GB : Type := GM × SKTs [.o 0 cKn] × Unit
def gb (m : GM) (k : Kns) : GB := (m, (k, ()), ())
def plGm : List (Nat × PureT) := (73, s_onB) :: (160, s_CellAt) :: (161, s_Slow) :: (162, s_Step) :: (163, s_Bump) :: (114, s_Settle) :: plS4
def ownL : List AV → List Nat
  | [] => []
  | .own i :: l => i :: ownL l
  | _ :: l => ownL l
def probeG (hp : Heap) (args : List AV) : Option (List Nat) := match args with
  | .ptr id _ _ _ :: _ => match hp id with
    | some (.blk b) => match nth b.cs 21 with
      | some (.fn _ _ [.ptr k _ _ _]) => match hp k with
        | some (.blk c) => some (id :: k :: (ownL b.cs ++ ownL c.cs))
        | _ => none
      | _ => none
    | _ => none
  | _ => none
def FL_i (f : Nat) : FLay := { ks := [.p 0 0 0 0, .d cI], bs := bsG f, nx := 1000 }
def FR_b (f : Nat) : FLay := { ks := [.d .b], bs := bsG f, nx := 1000 }
def FN : FLay := { ks := [.i 44 .i64], bs := [], nx := 1000 }
def FE_b (f : Nat) (b : Bool) : FLay := bif b then FR_b f else FN
def inO {β : Type} (n : Nat) (i : Int) (k : Tree β) : Tree β := inN n i (bif decide (Int.toNat i < n) then k else .fail)
theorem inO_ok {β : Type} {n : Nat} {i : Int} {k : Tree β} (h : 0 ≤ i ∧ i < (n : Int)) : inO n i k = k := by
  unfold inO
  rw [inN_ok h, decide_eq_true (by omega)]; rfl
def rollB (ms : Mots) (os : List Bool) (i : Nat) : Bool := !getA os i (dflt .b) && movB (getA ms i (dflt cMot))
def flyB (w fl i : Int) : Bool := (i == w) && decide (fl > 0)
def inGM (ms : Mots) (os : List Bool) (i : Int) : Bool := decide (0 ≤ i ∧ i < (os.length : Int) ∧ i < (ms.length : Int))
def lfB (f : Nat) (b : Bool) (x : GB) : Tree (LeftF (FE_b f)) := .leaf ⟨true, ((b, ()), x)⟩
def T_ro (f : Nat) (i : Int) (m : GM) (x : GB) : Tree (LeftF (FE_b f)) := inO (gmO m).length i (bif !getA (gmO m) (Int.toNat i) (dflt .b) then inO (gmM m).length i (lfB f (movB (getA (gmM m) (Int.toNat i) (dflt cMot))) x) else lfB f false x)
abbrev C_ro (f : Nat) (g : (FL_i f).T) : Bool := inGM g.2.1.2.2.2.2.2.2.2.2.2.2.2.2.2.2.2.1 g.2.1.2.2.2.2.2.2.2.2.2.2.2.2.2.2.2.2.1 g.1.2.1
def V_ro (f : Nat) (g : (FL_i f).T) : (FE_b f true).T := ((rollB g.2.1.2.2.2.2.2.2.2.2.2.2.2.2.2.2.2.1 g.2.1.2.2.2.2.2.2.2.2.2.2.2.2.2.2.2.2.1 (Int.toNat g.1.2.1), ()), g.2)
def C_fl (f : Nat) (_ : (FL_i f).T) : Bool := true
def V_fl (f : Nat) (g : (FL_i f).T) : (FE_b f true).T := ((flyB g.2.1.2.2.2.2.2.2.2.2.2.2.2.2.2.2.2.2.2.1 g.2.1.2.2.2.2.2.2.2.2.2.2.2.2.2.2.2.2.2.2.1 g.1.2.1, ()), g.2)
def T_fl (f : Nat) (i : Int) (m : GM) (x : GB) : Tree (LeftF (FE_b f)) := bif i == gmW m then lfB f (decide (gmF m > 0)) x else lfB f false x
theorem FE_b_nx {f : Nat} (b : Bool) : 1000 ≤ (FE_b f b).nx := by cases b <;> exact Nat.le_refl _
theorem ro_run {f : Nat} {g : (FL_i f).T} (h : C_ro f g = true) : (T_ro f g.1.2.1 g.2.1 g.2).run = some ⟨true, V_ro f g⟩ := by
  have hd : 0 ≤ g.1.2.1 ∧ g.1.2.1 < ((gmO g.2.1).length : Int) ∧ g.1.2.1 < ((gmM g.2.1).length : Int) := of_decide_eq_true h
  unfold V_ro
  show (T_ro f g.1.2.1 g.2.1 g.2).run = some (⟨true, ((rollB (gmM g.2.1) (gmO g.2.1) (Int.toNat g.1.2.1), ()), g.2)⟩ : LeftF (FE_b f))
  unfold T_ro rollB
  rw [inO_ok ⟨hd.1, hd.2.1⟩, inO_ok ⟨hd.1, hd.2.2⟩]
  cases getA (gmO g.2.1) (Int.toNat g.1.2.1) (dflt .b) <;> rfl
theorem fl_run {f : Nat} {g : (FL_i f).T} : (T_fl f g.1.2.1 g.2.1 g.2).run = some ⟨true, V_fl f g⟩ := by
  unfold V_fl
  show (T_fl f g.1.2.1 g.2.1 g.2).run = some (⟨true, ((flyB (gmW g.2.1) (gmF g.2.1) g.1.2.1, ()), g.2)⟩ : LeftF (FE_b f))
  unfold T_fl flyB
  cases g.1.2.1 == gmW g.2.1 <;> rfl
abbrev sp_ro (f : Nat) : Heap → Nat → List AV → Tree (Out × Heap × Nat) := fspec probeG (FL_i f) (FE_b f) (finC (fun g => inGM g.2.1.2.2.2.2.2.2.2.2.2.2.2.2.2.2.2.1 g.2.1.2.2.2.2.2.2.2.2.2.2.2.2.2.2.2.2.1 g.1.2.1) (V_ro f))
abbrev sp_fl (f : Nat) : Heap → Nat → List AV → Tree (Out × Heap × Nat) := fspec probeG (FL_i f) (FE_b f) (finC (fun _ => true) (V_fl f))
theorem puGm : PuOk Tryz.prog plGm := puOk_cons is_sOn.plain q_sOn (puOk_cons is_CellAt.plain q_CellAt (puOk_cons is_Slow.plain q_Slow (puOk_cons is_Step.plain q_Step (puOk_cons is_Bump.plain q_Bump (puOk_cons is_Settle.plain q_Settle puS4)))))
noncomputable def X_g1 : Ctx := ctx Tryz.prog plGm [(159, Tryz.f159), (113, Tryz.f113)]
theorem X_g1_ok : CtxOk X_g1 := ctx_ok mixed puGm (fns_cons is_rolls (fns_cons is_flies fns_nil))
theorem sp_ro_t : SpecOk Tryz.prog 159 (sp_ro 67) := fspecC X_g1_ok 6 FE_b_nx (C_ro 67) (V_ro 67) (fun g => T_ro 67 g.1.2.1 g.2.1 g.2) (fun g => by kernel_rfl) fun _ _ h => ro_run h
theorem sp_fl_t : SpecOk Tryz.prog 113 (sp_fl 67) := fspecC X_g1_ok 6 FE_b_nx (C_fl 67) (V_fl 67) (fun g => T_fl 67 g.1.2.1 g.2.1 g.2) (fun g => by kernel_rfl) fun _ _ _ => fl_run
theorem sp_ro_s : SpecOk Tryz.prog 159 (sp_ro 53) := fspecC X_g1_ok 6 FE_b_nx (C_ro 53) (V_ro 53) (fun g => T_ro 53 g.1.2.1 g.2.1 g.2) (fun g => by kernel_rfl) fun _ _ h => ro_run h
theorem sp_fl_s : SpecOk Tryz.prog 113 (sp_fl 53) := fspecC X_g1_ok 6 FE_b_nx (C_fl 53) (V_fl 53) (fun g => T_fl 53 g.1.2.1 g.2.1 g.2) (fun g => by kernel_rfl) fun _ _ _ => fl_run
theorem sp_ro_r : SpecOk Tryz.prog 159 (sp_ro 144) := fspecC X_g1_ok 6 FE_b_nx (C_ro 144) (V_ro 144) (fun g => T_ro 144 g.1.2.1 g.2.1 g.2) (fun g => by kernel_rfl) fun _ _ h => ro_run h
theorem sp_fl_r : SpecOk Tryz.prog 113 (sp_fl 144) := fspecC X_g1_ok 6 FE_b_nx (C_fl 144) (V_fl 144) (fun g => T_fl 144 g.1.2.1 g.2.1 g.2) (fun g => by kernel_rfl) fun _ _ _ => fl_run
end St
end V
end Go.Proofs.YtkiaifmbbnnliaaGreat
namespace Go.Proofs.YtkiaifmbbnnliaaGreat
open Go.RowKit
namespace V
def finY {L : FLay} {E : Bool → FLay} {A : Type} (Y : L.T → Option (A ⊕ Int)) (mk : L.T → A → (E true).T) (pn : Int → (E false).T) (d : A) (g : L.T) : Tree (LeftF E) :=
  .br (isL (Y g)) (.leaf ⟨true, mk g (gL d (Y g))⟩) (.br (isR (Y g)) (.leaf ⟨false, pn (gR 0 (Y g))⟩) .fail)
def toYf {L : FLay} {E : Bool → FLay} {A : Type} (mk : L.T → A → (E true).T) (pn : Int → (E false).T) (g : L.T) : A ⊕ Int → LeftF E
  | .inl a => ⟨true, mk g a⟩
  | .inr e => ⟨false, pn e⟩
theorem finY_sat {L : FLay} {E : Bool → FLay} {A : Type} {Y : L.T → Option (A ⊕ Int)} {mk : L.T → A → (E true).T} {pn : Int → (E false).T} {d : A} {g : L.T} {R : LeftF E → Prop} (h : (finY Y mk pn d g).sat R) : ∃ z, Y g = some z ∧ R (toYf mk pn g z) := by
  unfold finY at h
  obtain ⟨h1, h2⟩ := h
  cases hF : Y g with
  | none =>
    rw [hF] at h2
    exact ((h2 rfl).2 rfl).elim
  | some z =>
    cases z with
    | inl a => rw [hF] at h1; exact ⟨_, rfl, h1 rfl⟩
    | inr b => rw [hF] at h2; exact ⟨_, rfl, (h2 rfl).1 rfl⟩
theorem fspecY {X : Ctx} (hX : CtxOk X) {f : FuncId} (m : Nat) {probe : Heap → List AV → Option (List Nat)} {L : FLay} {E : Bool → FLay} (hE : ∀ b, L.nx ≤ (E b).nx) {A : Type} (Y : L.T → Option (A ⊕ Int)) (mk : L.T → A → (E true).T) (pn : Int → (E false).T) (d : A) (T : L.T → Tree (LeftF E))
    (he : ∀ g, evBody X (evFn X m) f (ofKs L.ks g.1 L.nx) (L.lay.hp g) (L.lay.of g).nx (foutK E) = T g)
    (h : ∀ g z, L.lay.WF g → Y g = some z → (T g).run = some (toYf mk pn g z)) : SpecOk X.P f (fspec probe L E (finY Y mk pn d)) :=
  fspec_ok hX m hE fun g R hw hf => by
    rw [he]
    obtain ⟨z, hz, hr⟩ := finY_sat hf
    exact sat_loose4 (Tree.sat_run (h g z hw hz) hr) fun x hx _ => hx
namespace St
def nBx (m : GM) : Nat := (gmB m).length
def okGM (m : GM) : Bool := decide ((m.1.size : Int) ≤ maxK .i64) && (decide ((gmM m).length = nBx m) && (decide ((gmO m).length = nBx m) && decide (nBx m ≤ 8)))
structure OkGM (m : GM) : Prop where
  sz : (m.1.size : Int) ≤ maxK .i64
  ms : (gmM m).length = nBx m
  os : (gmO m).length = nBx m
  n : nBx m ≤ 8
theorem okGM_iff {m : GM} : okGM m = true ↔ OkGM m := by
  unfold okGM
  simp only [Bool.and_eq_true, decide_eq_true_eq]
  exact ⟨fun h => ⟨h.1, h.2.1, h.2.2.1, h.2.2.2⟩, fun h => ⟨h.sz, h.ms, h.os, h.n⟩⟩
def FL_g (f : Nat) : FLay := { ks := [.p 0 0 0 0], bs := bsG f, nx := 1000 }
def FR_u (f : Nat) : FLay := { ks := [], bs := bsG f, nx := 1000 }
def FE_u (f : Nat) (b : Bool) : FLay := bif b then FR_u f else FN
theorem FE_u_nx {f : Nat} (b : Bool) : 1000 ≤ (FE_u f b).nx := by cases b <;> exact Nat.le_refl _
def pnU (f : Nat) (e : Int) : (FE_u f false).T := ((e, ()), ())
def mkU (f : Nat) (x : GB) : (FE_u f true).T := ((), x)
def spG (f : Nat) : List (Nat × (Heap → Nat → List AV → Tree (Out × Heap × Nat))) := [(159, sp_ro f), (113, sp_fl f)]
theorem two_spec {P : Program} {f g : Nat} {sp sq : Heap → Nat → List AV → Tree (Out × Heap × Nat)} (h : Plain P f) (k : SpecOk P f sp) (h2 : Plain P g) (k2 : SpecOk P g sq) : ∀ p ∈ [(f, sp), (g, sq)], Plain P p.1 ∧ SpecOk P p.1 p.2 := fun p hp => by
  simp only [List.mem_cons, List.not_mem_nil, or_false] at hp
  rcases hp with rfl | rfl
  · exact ⟨h, k⟩
  · exact ⟨h2, k2⟩
theorem no_loops4 {P : Program} {fns : List (Nat × Func)} : ∀ p ∈ fns, ∀ d ∈ loopsOf (bodyOf p.2), ∀ g, assoc2 ([] : List ((Nat × Nat) × (St → Tree (XE × St)))) p.1 (keyOf d) = some g → LoopOk P p.1 d g := fun _ _ _ _ _ h => by simp [assoc2] at h
noncomputable def X_g2 (f : Nat) : Ctx := ctxS Tryz.prog plGm [(57, Tryz.f57)] [] (spG f)
theorem X_g2_ok {f : Nat} (h1 : SpecOk Tryz.prog 159 (sp_ro f)) (h2 : SpecOk Tryz.prog 113 (sp_fl f)) : CtxOk (X_g2 f) := ctxS_ok mixed puGm (fns_cons is_must fns_nil) no_loops4 (two_spec is_rolls.plain h1 is_flies.plain h2)
noncomputable def lb_sw : Code := (loopsOf (bodyOf Tryz.f122)).getD 0 .skip
def L_sw (f : Nat) : Lay := { keys := [0, 13, 14], ks := [.p 0 0 0 0, .d cI, .d cI], bs := bsG f, n := 80, nx := 2000, marks := [] }
def R_sw (f : Nat) : Lay := { keys := [], ks := [], bs := bsG f, n := 80, nx := 2000, marks := [] }
def P_sw : Lay := { keys := [], ks := [], bs := [], n := 80, nx := 2000, marks := [] }
def E_sw (f : Nat) : XE → Lay := fun e => match e with | .panic _ => P_sw | _ => R_sw f
def slwV (l : TCT cLawn) (m : TCT cMot) : TCTs [cPt, cI] := SlowR (W64 (m.2.1.1 + (cellV l m.1).2.1)) (W64 (m.2.1.2.1 + (cellV l m.1).2.2.1)) (cellV l m.1).1
def slwM (l : TCT cLawn) (m : TCT cMot) : TCT cMot := (m.1, ((slwV l m).1.1, (slwV l m).1.2.1, ()), m.2.2.1, ())
def getM (ms : Mots) (i : Nat) : TCT cMot := getA ms i (dflt cMot)
def gk (x : GB) : Kns := x.2.1.1
def hd_sw (f : Nat) (x : GB) (n i : Int) (ms : Mots) : (L_sw f).T := (((), n, i, ()), (gb (gmU x.1 ms (gmO x.1)) (gk x)))
def ex_sw (f : Nat) (x : GB) (ms : Mots) : Left' (E_sw f) := ⟨.exit 0, ((), (gb (gmU x.1 ms (gmO x.1)) (gk x)))⟩
def pn_sw (f : Nat) (e : Int) : Left' (E_sw f) := ⟨.panic (.ifc 44 (.int .i64 e)), ((), ())⟩
abbrev TSw (f : Nat) := Tree ((L_sw f).T ⊕ Left' (E_sw f))
def inT {β : Type} (n : Nat) (i : Int) (k : Tree β) : Tree β := bif decide (Int.toNat i < n) then k else .fail
theorem inT_ok {β : Type} {n : Nat} {i : Int} {k : Tree β} (h : 0 ≤ i ∧ i < (n : Int)) : inT n i k = k := by unfold inT; rw [decide_eq_true (by omega)]; rfl
def bd_sw (f : Nat) (x : GB) (n i : Int) (ms : Mots) : TSw f :=
  bif cellE (gmL x.1) (getM ms (Int.toNat i)).1 != 0 then .leaf (.inr (pn_sw f (cellE (gmL x.1) (getM ms (Int.toNat i)).1))) else inT ms.length i (inT ms.length i (
    bif (slwV (gmL x.1) (getM ms (Int.toNat i))).2.1 != 0 then .leaf (.inr (pn_sw f 4)) else inT ms.length i (.leaf (.inl (hd_sw f x n (W64 (i + 1)) (setA ms (Int.toNat i) (slwM (gmL x.1) (getM ms (Int.toNat i)))))))))
def szG {β : Type} (m : GM) (k : Tree β) : Tree β := bif decide ((m.1.size : Int) ≤ maxK .i64) then k else .fail
def st_sw' (f : Nat) (x : GB) (n i : Int) (ms : Mots) : TSw f := bif decide (i < n) then bif inGM ms (gmO x.1) i then
  bif !rollB ms (gmO x.1) (Int.toNat i) then .leaf (.inl (hd_sw f x n (W64 (i + 1)) ms)) else bif flyB (gmW x.1) (gmF x.1) i then .leaf (.inl (hd_sw f x n (W64 (i + 1)) ms)) else
  inO ms.length i (szG x.1 (bd_sw f x n i ms)) else .fail else .leaf (.inr (ex_sw f x ms))
def st_sw (f : Nat) (g : (L_sw f).T) : TSw f := st_sw' f g.2 g.1.2.1 g.1.2.2.1 (gmM g.2.1)
def fu_sw (f : Nat) (g : (L_sw f).T) : Nat := Int.toNat g.1.2.1 + 1
def sm_sw (f : Nat) : St → Tree (XE × St) := loopSum (L_sw f) (E_sw f) (finP 44 .i64 [.exit 0] (st_sw f) (fu_sw f))
theorem E_sw_nx {f : Nat} (e : XE) : (L_sw f).nx ≤ (E_sw f e).nx := by cases e <;> exact Nat.le_refl _
theorem l_sw_t : LoopOk Tryz.prog 122 lb_sw (sm_sw 67) := loopOk_p0 (X_g2_ok sp_ro_t sp_fl_t) 7 _ _ _ E_sw_nx _ _ _ _ (fu_sw 67) (fun g => by kernel_rfl)
theorem l_sw_r : LoopOk Tryz.prog 122 lb_sw (sm_sw 144) := loopOk_p0 (X_g2_ok sp_ro_r sp_fl_r) 7 _ _ _ E_sw_nx _ _ _ _ (fu_sw 144) (fun g => by kernel_rfl)
def f_sw (m : GM) (i : Nat) (ms : Mots) : Mots ⊕ Int :=
  bif !rollB ms (gmO m) i || flyB (gmW m) (gmF m) i then .inl ms else bif cellE (gmL m) (getM ms i).1 != 0 then .inr (cellE (gmL m) (getM ms i).1) else
  bif (slwV (gmL m) (getM ms i)).2.1 != 0 then .inr 4 else .inl (setA ms i (slwM (gmL m) (getM ms i)))
def res_sw (f : Nat) (x : GB) : Mots ⊕ Int → Left' (E_sw f)
  | .inl ms => ex_sw f x ms
  | .inr e => pn_sw f e
theorem setA_len {α : Type} : ∀ (l : List α) (i : Nat) (x : α), (setA l i x).length = l.length
  | [], _, _ => rfl
  | _ :: _, 0, _ => rfl
  | _ :: l, i + 1, x => by simp only [setA, List.length_cons, setA_len l i x]
theorem inv_sw {m : GM} {n : Nat} (i : Nat) (s s' : Mots) (_ : i < n) (hi : s.length = n) (h : f_sw m i s = .inl s') : s'.length = n := by
  unfold f_sw at h
  cases h1 : !rollB s (gmO m) i || flyB (gmW m) (gmF m) i with
  | true => rw [h1] at h; cases h; exact hi
  | false =>
    rw [h1] at h
    cases h2 : cellE (gmL m) (getM s i).1 != 0 with
    | true => rw [h2] at h; cases h
    | false =>
      rw [h2] at h
      cases h3 : (slwV (gmL m) (getM s i)).2.1 != 0 with
      | true => rw [h3] at h; cases h
      | false => rw [h3] at h; cases h; rw [setA_len]; exact hi
theorem inGM_ok {ms : Mots} {os : List Bool} {i n : Nat} (h : i < n) (h1 : ms.length = n) (h2 : os.length = n) : inGM ms os (i : Int) = true := by
  unfold inGM
  exact decide_eq_true (by omega)
theorem it_sw {f : Nat} {x : GB} {ms : Mots} (hx : OkGM x.1) (hm : ms.length = nBx x.1) : iter (st_sw f) (nBx x.1 + 1) (hd_sw f x (nBx x.1) 0 ms) = some (res_sw f x (foldN (f_sw x.1) 0 (nBx x.1) ms)) := by
  have hn : (nBx x.1 : Int) ≤ maxK .i64 := by have := hx.n; show (nBx x.1 : Int) ≤ 9223372036854775807; omega
  refine iter_n (nBx x.1) (fun i ms => hd_sw f x (nBx x.1) i ms) (f_sw x.1) (res_sw f x) (fun _ ms => ms.length = nBx x.1) (fun i ms hi hl => ?_) inv_sw (fun ms hl => ?_) (nBx x.1) 0 ms (by omega) hm
  · show (st_sw' f (gb (gmU x.1 ms (gmO x.1)) (gk x)) (nBx x.1) (i : Int) ms).run = _
    have e : ∀ y z, hd_sw f (gb (gmU x.1 ms (gmO x.1)) (gk x)) (nBx x.1) y z = hd_sw f x (nBx x.1) y z := fun _ _ => rfl
    unfold st_sw'
    have hin := inGM_ok hi hl hx.os
    show Tree.run (bif decide ((i : Int) < (nBx x.1 : Int)) then bif inGM ms (gmO x.1) (i : Int) then bif !rollB ms (gmO x.1) i then .leaf (.inl (hd_sw f x (nBx x.1) (W64 ((i : Int) + 1)) ms)) else bif flyB (gmW x.1) (gmF x.1) i then .leaf (.inl (hd_sw f x (nBx x.1) (W64 ((i : Int) + 1)) ms)) else
      inO ms.length i (szG x.1 (bd_sw f x (nBx x.1) i ms)) else .fail else .leaf (.inr (ex_sw f x ms)) : TSw f) = _
    have hsz : ∀ k : TSw f, szG x.1 k = k := fun k => by unfold szG; rw [decide_eq_true hx.sz]; rfl
    rw [decide_eq_true (show (i : Int) < (nBx x.1 : Int) by omega), hin, inO_ok (by omega), hsz, W64_succ hi hn]
    unfold f_sw bd_sw
    rw [inT_ok (by omega), inT_ok (by omega), inT_ok (by omega), show Int.toNat (i : Int) = i from rfl, W64_succ hi hn]
    cases rollB ms (gmO x.1) i with
    | false => rfl
    | true =>
      cases flyB (gmW x.1) (gmF x.1) i with
      | true => rfl
      | false =>
        simp only [Bool.not_true, Bool.or_self, cond_true, cond_false]
        cases cellE (gmL x.1) (getM ms i).1 != 0 with
        | true => rfl
        | false =>
          simp only [cond_false]
          cases (slwV (gmL x.1) (getM ms i)).2.1 != 0 <;> rfl
  · show (st_sw' f (gb (gmU x.1 ms (gmO x.1)) (gk x)) (nBx x.1) (nBx x.1) ms).run = _
    unfold st_sw'
    rw [decide_eq_false (show ¬ (nBx x.1 : Int) < (nBx x.1 : Int) by omega)]
    rfl
end St
end V
end Go.Proofs.YtkiaifmbbnnliaaGreat
namespace Go.Proofs.YtkiaifmbbnnliaaGreat
open Go.RowKit
namespace V
namespace St
noncomputable def X_sl (f : Nat) : Ctx := ctxS Tryz.prog plGm [(122, Tryz.f122)] [((122, 1), sm_sw f)] (spG f)
theorem X_sl_ok {f : Nat} (h1 : SpecOk Tryz.prog 159 (sp_ro f)) (h2 : SpecOk Tryz.prog 113 (sp_fl f)) (hl : LoopOk Tryz.prog 122 lb_sw (sm_sw f)) : CtxOk (X_sl f) :=
  ctxS_ok mixed puGm (fns_cons is_gslow fns_nil) (loops_one (by kernel_rfl) (by kernel_rfl) hl) (two_spec is_rolls.plain h1 is_flies.plain h2)
def y_sw (f : Nat) (x : GB) : Option (Left' (E_sw f)) := iter (st_sw f) (nBx x.1 + 1) (hd_sw f x (nBx x.1) 0 (gmM x.1))
def T_slw (f : Nat) (x : GB) : Tree (LeftF (FE_u f)) := bif isP 44 .i64 (y_sw f x) then .leaf ⟨false, pnU f (panO 44 .i64 (y_sw f x)).1⟩ else bif isE (.exit 0) (y_sw f x) then .leaf ⟨true, ((), (valE (.exit 0) (y_sw f x)).2)⟩ else .fail
def Y_slw (x : GB) : Option (Mots ⊕ Int) := bif okGM x.1 then some (foldN (f_sw x.1) 0 (nBx x.1) (gmM x.1)) else none
def mk_slw (f : Nat) (x : GB) (ms : Mots) : (FE_u f true).T := mkU f (gb (gmU x.1 ms (gmO x.1)) (gk x))
abbrev sp_slw (f : Nat) : Heap → Nat → List AV → Tree (Out × Heap × Nat) := fspec probeG (FL_g f) (FE_u f) (finY (fun g : (FL_g f).T => Y_slw g.2) (fun g => mk_slw f g.2) (pnU f) [])
theorem slw_run {f : Nat} {g : (FL_g f).T} {z : Mots ⊕ Int} (h : Y_slw g.2 = some z) : (T_slw f g.2).run = some (toYf (L := FL_g f) (E := FE_u f) (fun g => mk_slw f g.2) (pnU f) g z) := by
  unfold Y_slw at h
  cases ho : okGM g.2.1 with
  | false => rw [ho] at h; cases h
  | true =>
    rw [ho] at h
    cases h
    have hy : y_sw f g.2 = some (res_sw f g.2 (foldN (f_sw g.2.1) 0 (nBx g.2.1) (gmM g.2.1))) := it_sw (okGM_iff.1 ho) (okGM_iff.1 ho).ms
    unfold T_slw
    rw [hy]
    cases foldN (f_sw g.2.1) 0 (nBx g.2.1) (gmM g.2.1) with
    | inl ms => rfl
    | inr e =>
      have h1 : isP 44 .i64 (some (res_sw f g.2 (.inr e))) = true := isP_some
      have h2 : panO 44 .i64 (some (res_sw f g.2 (.inr e))) = ⟨e, ((), ())⟩ := panO_some
      rw [h1, h2]
      rfl
theorem sp_slw_t : SpecOk Tryz.prog 122 (sp_slw 67) := fspecY (X_sl_ok sp_ro_t sp_fl_t l_sw_t) 6 FE_u_nx _ _ _ _ (fun g => T_slw 67 g.2) (fun g => by kernel_rfl) fun _ _ _ h => slw_run h
theorem sp_slw_r : SpecOk Tryz.prog 122 (sp_slw 144) := fspecY (X_sl_ok sp_ro_r sp_fl_r l_sw_r) 6 FE_u_nx _ _ _ _ (fun g => T_slw 144 g.2) (fun g => by kernel_rfl) fun _ _ _ h => slw_run h
end St
end V
end Go.Proofs.YtkiaifmbbnnliaaGreat
namespace Go.Proofs.YtkiaifmbbnnliaaGreat
open Go.RowKit
namespace V
theorem loops_none {P : Program} {f : Nat} {fn : Func} {loops : List ((Nat × Nat) × (St → Tree (XE × St)))} (h : loopsOf (bodyOf fn) = []) : ∀ d ∈ loopsOf (bodyOf fn), ∀ g, assoc2 loops f (keyOf d) = some g → LoopOk P f d g := by
  intro d hd
  rw [h] at hd
  cases hd
theorem loops_nil {P : Program} {loops : List ((Nat × Nat) × (St → Tree (XE × St)))} : ∀ q ∈ ([] : List (Nat × Func)), ∀ d ∈ loopsOf (bodyOf q.2), ∀ g, assoc2 loops q.1 (keyOf d) = some g → LoopOk P q.1 d g := fun _ h => nomatch h
theorem loops_cons {P : Program} {f : Nat} {fn : Func} {rest : List (Nat × Func)} {loops : List ((Nat × Nat) × (St → Tree (XE × St)))} (h : ∀ d ∈ loopsOf (bodyOf fn), ∀ g, assoc2 loops f (keyOf d) = some g → LoopOk P f d g)
    (hr : ∀ q ∈ rest, ∀ d ∈ loopsOf (bodyOf q.2), ∀ g, assoc2 loops q.1 (keyOf d) = some g → LoopOk P q.1 d g) : ∀ q ∈ (f, fn) :: rest, ∀ d ∈ loopsOf (bodyOf q.2), ∀ g, assoc2 loops q.1 (keyOf d) = some g → LoopOk P q.1 d g := by
  intro q hq
  rcases List.mem_cons.1 hq with rfl | hq
  · exact h
  · exact hr q hq
def AllOk (P : Program) (f : Nat) (loops : List ((Nat × Nat) × (St → Tree (XE × St)))) : List Code → Prop
  | [] => True
  | d :: l => (∀ g, assoc2 loops f (keyOf d) = some g → LoopOk P f d g) ∧ AllOk P f loops l
theorem loops_of {P : Program} {f : Nat} {fn : Func} {loops : List ((Nat × Nat) × (St → Tree (XE × St)))} {ds : List Code} (h : loopsOf (bodyOf fn) = ds) (ha : AllOk P f loops ds) : ∀ d ∈ loopsOf (bodyOf fn), ∀ g, assoc2 loops f (keyOf d) = some g → LoopOk P f d g := by
  rw [h]
  clear h
  induction ds with
  | nil => intro d hd; cases hd
  | cons a l ih =>
    intro d hd
    rcases List.mem_cons.1 hd with rfl | hd
    · exact ha.1
    · exact ih ha.2 d hd
theorem one_key {P : Program} {f : Nat} {d : Code} {loops : List ((Nat × Nat) × (St → Tree (XE × St)))} {k : Nat} {s : St → Tree (XE × St)} (hk : keyOf d = k) (ha : assoc2 loops f k = some s) (h : LoopOk P f d s) : ∀ g, assoc2 loops f (keyOf d) = some g → LoopOk P f d g := by
  intro g hg
  rw [hk, ha] at hg
  cases hg
  exact h
namespace St
noncomputable def lb_m1 : Code := (loopsOf (bodyOf Tryz.f123)).getD 0 .skip
def L_m1 (f : Nat) : Lay := { keys := [0, 12, 13, 14], ks := [.p 0 0 0 0, .d (.sl cBall), .d cI, .d cI], bs := bsG f, n := 104, nx := 2000, marks := [] }
def R_m1 (f : Nat) : Lay := { keys := [0], ks := [.p 0 0 0 0], bs := bsG f, n := 104, nx := 2000, marks := [] }
def P_mv : Lay := { keys := [], ks := [], bs := [], n := 104, nx := 3000, marks := [] }
def E_m1 (f : Nat) : XE → Lay := fun e => match e with | .panic _ => P_mv | _ => R_m1 f
def stpV (b : TCT cBall) (m : TCT cMot) : TCTs [cMot, cI] := StepR (bm b m)
def getB (bl : List (TCT cBall)) (i : Nat) : TCT cBall := getA bl i (dflt cBall)
def hd_m1 (f : Nat) (x : GB) (bl : List (TCT cBall)) (n i : Int) (ms : Mots) : (L_m1 f).T := (((), bl, n, i, ()), (gb (gmU x.1 ms (gmO x.1)) (gk x)))
def ex_m1 (f : Nat) (x : GB) (ms : Mots) : Left' (E_m1 f) := ⟨.exit 0, (((), ()), (gb (gmU x.1 ms (gmO x.1)) (gk x)))⟩
def pn_m1 (f : Nat) (e : Int) : Left' (E_m1 f) := ⟨.panic (.ifc 44 (.int .i64 e)), ((), ())⟩
abbrev TM1 (f : Nat) := Tree ((L_m1 f).T ⊕ Left' (E_m1 f))
def bd_m1 (f : Nat) (x : GB) (bl : List (TCT cBall)) (n i : Int) (ms : Mots) : TM1 f := inO ms.length i (bif (stpV (getB bl (Int.toNat i)) (getM ms (Int.toNat i))).2.1 != 0 then .leaf (.inr (pn_m1 f (stpV (getB bl (Int.toNat i)) (getM ms (Int.toNat i))).2.1)) else
  inO ms.length i (.leaf (.inl (hd_m1 f x bl n (W64 (i + 1)) (setA ms (Int.toNat i) (stpV (getB bl (Int.toNat i)) (getM ms (Int.toNat i))).1)))))
def st_m1' (f : Nat) (x : GB) (bl : List (TCT cBall)) (n i : Int) (ms : Mots) : TM1 f := bif decide (i < n) then inN bl.length i (bif inGM ms (gmO x.1) i then bif rollB ms (gmO x.1) (Int.toNat i) then bd_m1 f x bl n i ms else .leaf (.inl (hd_m1 f x bl n (W64 (i + 1)) ms)) else .fail) else .leaf (.inr (ex_m1 f x ms))
def st_m1 (f : Nat) (g : (L_m1 f).T) : TM1 f := st_m1' f g.2 g.1.2.1 g.1.2.2.1 g.1.2.2.2.1 (gmM g.2.1)
def fu_m1 (f : Nat) (g : (L_m1 f).T) : Nat := Int.toNat g.1.2.2.1 + 1
def sm_m1 (f : Nat) : St → Tree (XE × St) := loopSum (L_m1 f) (E_m1 f) (finP 44 .i64 [.exit 0] (st_m1 f) (fu_m1 f))
theorem E_m1_nx {f : Nat} (e : XE) : (L_m1 f).nx ≤ (E_m1 f e).nx := by cases e <;> first | exact Nat.le_refl _ | exact (by decide : (2000 : Nat) ≤ 3000)
def stE (bl : List (TCT cBall)) (os : List Bool) (i : Nat) (ms : Mots) : Mots ⊕ Int := bif !rollB ms os i then .inl ms else bif (stpV (getB bl i) (getM ms i)).2.1 != 0 then .inr (stpV (getB bl i) (getM ms i)).2.1 else .inl (setA ms i (stpV (getB bl i) (getM ms i)).1)
def res_m1 (f : Nat) (x : GB) : Mots ⊕ Int → Left' (E_m1 f)
  | .inl ms => ex_m1 f x ms
  | .inr e => pn_m1 f e
theorem inv_m1 {bl : List (TCT cBall)} {os : List Bool} {n : Nat} (i : Nat) (s s' : Mots) (_ : i < n) (hi : s.length = n) (h : stE bl os i s = .inl s') : s'.length = n := by
  unfold stE at h
  cases h1 : !rollB s os i with
  | true => rw [h1] at h; cases h; exact hi
  | false =>
    rw [h1] at h
    cases h3 : (stpV (getB bl i) (getM s i)).2.1 != 0 with
    | true => rw [h3] at h; cases h
    | false => rw [h3] at h; cases h; rw [setA_len]; exact hi
theorem it_m1 {f : Nat} {x : GB} {ms : Mots} (hx : OkGM x.1) (hm : ms.length = nBx x.1) : iter (st_m1 f) (nBx x.1 + 1) (hd_m1 f x (gmB x.1) (nBx x.1) 0 ms) = some (res_m1 f x (foldN (stE (gmB x.1) (gmO x.1)) 0 (nBx x.1) ms)) := by
  have hn : (nBx x.1 : Int) ≤ maxK .i64 := by have := hx.n; show (nBx x.1 : Int) ≤ 9223372036854775807; omega
  refine iter_n (nBx x.1) (fun i ms => hd_m1 f x (gmB x.1) (nBx x.1) i ms) (stE (gmB x.1) (gmO x.1)) (res_m1 f x) (fun _ ms => ms.length = nBx x.1) (fun i ms hi hl => ?_) inv_m1 (fun ms hl => ?_) (nBx x.1) 0 ms (by omega) hm
  · show Tree.run (bif decide ((i : Int) < (nBx x.1 : Int)) then inN (nBx x.1) i (bif inGM ms (gmO x.1) i then bif rollB ms (gmO x.1) i then bd_m1 f x (gmB x.1) (nBx x.1) i ms else .leaf (.inl (hd_m1 f x (gmB x.1) (nBx x.1) (W64 ((i : Int) + 1)) ms)) else .fail) else .leaf (.inr (ex_m1 f x ms)) : TM1 f) = _
    rw [decide_eq_true (show (i : Int) < (nBx x.1 : Int) by omega), inN_ok (by omega), inGM_ok hi hl hx.os, W64_succ hi hn]
    unfold stE bd_m1
    rw [inO_ok (by omega), inO_ok (by omega), show Int.toNat (i : Int) = i from rfl, W64_succ hi hn]
    cases rollB ms (gmO x.1) i with
    | false => rfl
    | true =>
      simp only [Bool.not_true, cond_true, cond_false]
      cases (stpV (getB (gmB x.1) i) (getM ms i)).2.1 != 0 <;> rfl
  · show (st_m1' f (gb (gmU x.1 ms (gmO x.1)) (gk x)) (gmB x.1) (nBx x.1) (nBx x.1) ms).run = _
    unfold st_m1'
    rw [decide_eq_false (show ¬ (nBx x.1 : Int) < (nBx x.1 : Int) by omega)]
    rfl
noncomputable def lb_m2 : Code := (loopsOf (bodyOf Tryz.f123)).getD 1 .skip
def L_m2 (f : Nat) : Lay := { keys := [0, 52, 53], ks := [.p 0 0 0 0, .d cI, .d cI], bs := bsG f, n := 104, nx := 3000, marks := [] }
def R_m2 (f : Nat) : Lay := { keys := [], ks := [], bs := bsG f, n := 104, nx := 3000, marks := [] }
def E_m2 (f : Nat) : XE → Lay := fun e => match e with | .panic _ => P_mv | _ => R_m2 f
abbrev S2 : Type := Mots × List Bool × Kns
def kn (t s k b o : Int) : TCT cKn := (t, s, k, b, o, ())
def outM (m : TCT cMot) : TCT cMot := (m.1, (0, 0, ()), m.2.2.1, ())
def hd_m2 (f : Nat) (x : GB) (n i : Int) (s : S2) : (L_m2 f).T := (((), n, i, ()), (gb (gmU x.1 s.1 s.2.1) s.2.2))
def ex_m2 (f : Nat) (x : GB) (s : S2) : Left' (E_m2 f) := ⟨.exit 2, ((), (gb (gmU x.1 s.1 s.2.1) s.2.2))⟩
abbrev TM2 (f : Nat) := Tree ((L_m2 f).T ⊕ Left' (E_m2 f))
def appK {β : Type} (ks : Kns) (k : TCT cKn) (t : Kns → Tree β) : Tree β := bif appOk ks [k] 40 then t (ks ++ [k]) else .fail
def st_m2' (f : Nat) (x : GB) (n i : Int) (ms : Mots) (os : List Bool) (ks : Kns) : TM2 f := bif decide (i < n) then inO os.length i (bif !getA os (Int.toNat i) (dflt .b) then inO ms.length i (
  bif !onB (gmL x.1) (getM ms (Int.toNat i)).1 then inO os.length i (inO ms.length i (appK ks (kn (gmT x.1) (gmS x.1) 2 i 0) fun ks' => .leaf (.inl (hd_m2 f x n (W64 (i + 1)) (setA ms (Int.toNat i) (outM (getM ms (Int.toNat i))), setA os (Int.toNat i) true, ks')))))
  else .leaf (.inl (hd_m2 f x n (W64 (i + 1)) (ms, os, ks)))) else .leaf (.inl (hd_m2 f x n (W64 (i + 1)) (ms, os, ks)))) else .leaf (.inr (ex_m2 f x (ms, os, ks)))
def st_m2 (f : Nat) (g : (L_m2 f).T) : TM2 f := st_m2' f g.2 g.1.2.1 g.1.2.2.1 (gmM g.2.1) (gmO g.2.1) (gk g.2)
def fu_m2 (f : Nat) (g : (L_m2 f).T) : Nat := Int.toNat g.1.2.1 + 1
def sm_m2 (f : Nat) : St → Tree (XE × St) := loopSum (L_m2 f) (E_m2 f) (finX [.exit 2] (st_m2 f) (fu_m2 f))
theorem E_m2_nx {f : Nat} (e : XE) : (L_m2 f).nx ≤ (E_m2 f e).nx := by cases e <;> exact Nat.le_refl _
noncomputable def X_g3 (f : Nat) (c : Nat × Func) : Ctx := ctxS Tryz.prog plGm [(57, Tryz.f57), (115, Tryz.f115), c] [] (spG f)
theorem X_g3_ok {f : Nat} {c : Nat × Func} (hc : FnIs Tryz.prog c) (h1 : SpecOk Tryz.prog 159 (sp_ro f)) (h2 : SpecOk Tryz.prog 113 (sp_fl f)) : CtxOk (X_g3 f c) := ctxS_ok mixed puGm (fns_cons is_must (fns_cons is_knock (fns_cons hc fns_nil))) no_loops4 (two_spec is_rolls.plain h1 is_flies.plain h2)
theorem l_m1_t : LoopOk Tryz.prog 123 lb_m1 (sm_m1 67) := loopOk_p0 (X_g3_ok is_Tick1 sp_ro_t sp_fl_t) 7 _ _ _ E_m1_nx _ _ _ _ (fu_m1 67) (fun g => by kernel_rfl)
theorem l_m1_r : LoopOk Tryz.prog 123 lb_m1 (sm_m1 144) := loopOk_p0 (X_g3_ok is_run1 sp_ro_r sp_fl_r) 7 _ _ _ E_m1_nx _ _ _ _ (fu_m1 144) (fun g => by kernel_rfl)
theorem l_m2_t : LoopOk Tryz.prog 123 lb_m2 (sm_m2 67) := loopOk_x0 (X_g3_ok is_Tick1 sp_ro_t sp_fl_t) 7 _ _ _ E_m2_nx _ _ (fu_m2 67) (fun g => by kernel_rfl)
theorem l_m2_r : LoopOk Tryz.prog 123 lb_m2 (sm_m2 144) := loopOk_x0 (X_g3_ok is_run1 sp_ro_r sp_fl_r) 7 _ _ _ E_m2_nx _ _ (fu_m2 144) (fun g => by kernel_rfl)
def lvE (l : TCT cLawn) (t st : Int) (i : Nat) (s : S2) : S2 ⊕ Int := bif !getA s.2.1 i (dflt .b) then bif !onB l (getM s.1 i).1 then .inl (setA s.1 i (outM (getM s.1 i)), setA s.2.1 i true, s.2.2 ++ [kn t st 2 i 0]) else .inl s else .inl s
def res_m2 (f : Nat) (x : GB) : S2 ⊕ Int → Left' (E_m2 f)
  | .inl s => ex_m2 f x s
  | .inr _ => ex_m2 f x ([], [], [])
structure Inv2 (n k : Nat) (i : Nat) (s : S2) : Prop where
  m : s.1.length = n
  o : s.2.1.length = n
  k : s.2.2.length ≤ k + i
theorem inv_m2 {l : TCT cLawn} {t st : Int} {n k : Nat} (i : Nat) (s s' : S2) (_ : i < n) (hi : Inv2 n k i s) (h : lvE l t st i s = .inl s') : Inv2 n k (i + 1) s' := by
  unfold lvE at h
  have hk := hi.k
  cases h1 : !getA s.2.1 i (dflt .b) with
  | false => rw [h1] at h; cases h; exact ⟨hi.m, hi.o, by omega⟩
  | true =>
    rw [h1] at h
    cases h3 : !onB l (getM s.1 i).1 with
    | false => rw [h3] at h; cases h; exact ⟨hi.m, hi.o, by omega⟩
    | true => rw [h3] at h; cases h; exact ⟨by rw [setA_len]; exact hi.m, by rw [setA_len]; exact hi.o, by simp; omega⟩
theorem it_m2 {f : Nat} {x : GB} {s : S2} {n k : Nat} (hn8 : n ≤ 8) (hk : k ≤ 900000) (hs : Inv2 n k 0 s) : iter (st_m2 f) (n + 1) (hd_m2 f x n 0 s) = some (res_m2 f x (foldN (lvE (gmL x.1) (gmT x.1) (gmS x.1)) 0 n s)) := by
  have hn : (n : Int) ≤ maxK .i64 := by show (n : Int) ≤ 9223372036854775807; omega
  refine iter_n n (fun i s => hd_m2 f x n i s) (lvE (gmL x.1) (gmT x.1) (gmS x.1)) (res_m2 f x) (Inv2 n k) (fun i s hi hl => ?_) inv_m2 (fun s hl => ?_) n 0 s (by omega) hs
  · show (st_m2' f (gb (gmU x.1 s.1 s.2.1) s.2.2) n i s.1 s.2.1 s.2.2).run = _
    unfold st_m2' lvE appK
    have h1 := hl.m
    have h2 := hl.o
    have h3 := hl.k
    rw [decide_eq_true (show (i : Int) < (n : Int) by omega), inO_ok (by omega), inO_ok (by omega), inO_ok (by omega), inO_ok (by omega), show Int.toNat (i : Int) = i from rfl, W64_succ hi hn, app_ok (by simp; omega) (by decide)]
    cases getA s.2.1 i (dflt .b) with
    | true => rfl
    | false =>
      show (bif !onB (gmL x.1) (getM s.1 i).1 then _ else _ : TM2 f).run = _
      simp only [Bool.not_false, cond_true]
      cases onB (gmL x.1) (getM s.1 i).1 <;> rfl
  · show (st_m2' f (gb (gmU x.1 s.1 s.2.1) s.2.2) n n s.1 s.2.1 s.2.2).run = _
    unfold st_m2'
    rw [decide_eq_false (show ¬ (n : Int) < (n : Int) by omega)]
    rfl
end St
end V
end Go.Proofs.YtkiaifmbbnnliaaGreat
namespace Go.Proofs.YtkiaifmbbnnliaaGreat
open Go.RowKit
namespace V
theorem foldN_inl {S B : Type} {f : Nat → S → S ⊕ B} (h : ∀ i s, ∃ s', f i s = .inl s') : ∀ (k i : Nat) (s : S), ∃ s', foldN f i k s = .inl s'
  | 0, _, s => ⟨s, rfl⟩
  | k + 1, i, s => by
    obtain ⟨s', hs⟩ := h i s
    unfold foldN
    rw [hs]
    exact foldN_inl h k (i + 1) s'
namespace St
theorem lvE_inl {l : TCT cLawn} {t st : Int} (i : Nat) (s : S2) : ∃ s', lvE l t st i s = .inl s' := by
  unfold lvE
  cases !getA s.2.1 i (dflt .b) with
  | false => exact ⟨_, rfl⟩
  | true => cases !onB l (getM s.1 i).1 <;> exact ⟨_, rfl⟩
noncomputable def X_mv (f : Nat) : Ctx := ctxS Tryz.prog plGm [(123, Tryz.f123)] [((123, 1), sm_m1 f), ((123, 9), sm_m2 f)] (spG f)
theorem X_mv_ok {f : Nat} (h1 : SpecOk Tryz.prog 159 (sp_ro f)) (h2 : SpecOk Tryz.prog 113 (sp_fl f)) (hl : LoopOk Tryz.prog 123 lb_m1 (sm_m1 f)) (hm : LoopOk Tryz.prog 123 lb_m2 (sm_m2 f)) : CtxOk (X_mv f) :=
  ctxS_ok mixed puGm (fns_cons is_gmove fns_nil) (loops_cons (loops_of (ds := [lb_m1, lb_m2]) (by kernel_rfl) ⟨one_key (k := 1) (by kernel_rfl) rfl hl, one_key (k := 9) (by kernel_rfl) rfl hm, trivial⟩) loops_nil) (two_spec is_rolls.plain h1 is_flies.plain h2)
def mvF (bl : List (TCT cBall)) (l : TCT cLawn) (t st : Int) (n : Nat) (s : S2) : S2 ⊕ Int := match foldN (stE bl s.2.1) 0 n s.1 with
  | .inl ms => foldN (lvE l t st) 0 n (ms, s.2.1, s.2.2)
  | .inr e => .inr e
def gs (x : GB) : S2 := (gmM x.1, gmO x.1, gk x)
def y_m1 (f : Nat) (x : GB) : Option (Left' (E_m1 f)) := iter (st_m1 f) (nBx x.1 + 1) (hd_m1 f x (gmB x.1) (nBx x.1) 0 (gmM x.1))
def y_m2 (f : Nat) (x : GB) : Option (Left' (E_m2 f)) := iter (st_m2 f) (nBx x.1 + 1) (hd_m2 f x (nBx x.1) 0 (gs x))
abbrev TU (f : Nat) := Tree (LeftF (FE_u f))
def k2_mv (f : Nat) (y : Option (Left' (E_m2 f))) : TU f := bif isE (.exit 2) y then .leaf ⟨true, ((), (valE (.exit 2) y).2)⟩ else .fail
def k1_mv (f : Nat) (y : Option (Left' (E_m1 f))) : TU f := bif isP 44 .i64 y then .leaf ⟨false, pnU f (panO 44 .i64 y).1⟩ else bif isE (.exit 0) y then k2_mv f (y_m2 f (valE (.exit 0) y).2) else .fail
def T_mv (f : Nat) (x : GB) : TU f := k1_mv f (y_m1 f x)
def okGB (x : GB) : Bool := okGM x.1 && decide ((gk x).length ≤ 900000)
def Y_mv (x : GB) : Option (S2 ⊕ Int) := bif okGB x then some (mvF (gmB x.1) (gmL x.1) (gmT x.1) (gmS x.1) (nBx x.1) (gs x)) else none
def mk_2 (f : Nat) (x : GB) (s : S2) : (FE_u f true).T := mkU f (gb (gmU x.1 s.1 s.2.1) s.2.2)
abbrev sp_mv (f : Nat) : Heap → Nat → List AV → Tree (Out × Heap × Nat) := fspec probeG (FL_g f) (FE_u f) (finY (fun g : (FL_g f).T => Y_mv g.2) (fun g => mk_2 f g.2) (pnU f) ([], [], []))
theorem okGB_iff {x : GB} (h : okGB x = true) : OkGM x.1 ∧ (gk x).length ≤ 900000 := by
  unfold okGB at h
  simp only [Bool.and_eq_true, decide_eq_true_eq] at h
  exact ⟨okGM_iff.1 h.1, h.2⟩
theorem mv_run {f : Nat} {g : (FL_g f).T} {z : S2 ⊕ Int} (h : Y_mv g.2 = some z) : (T_mv f g.2).run = some (toYf (L := FL_g f) (E := FE_u f) (fun g => mk_2 f g.2) (pnU f) g z) := by
  unfold Y_mv at h
  cases ho : okGB g.2 with
  | false => rw [ho] at h; cases h
  | true =>
    rw [ho] at h
    cases h
    obtain ⟨hg, hk⟩ := okGB_iff ho
    have hy : y_m1 f g.2 = some (res_m1 f g.2 (foldN (stE (gmB g.2.1) (gmO g.2.1)) 0 (nBx g.2.1) (gmM g.2.1))) := it_m1 hg hg.ms
    unfold T_mv mvF
    rw [hy]
    show (k1_mv f (some (res_m1 f g.2 (foldN (stE (gmB g.2.1) (gmO g.2.1)) 0 (nBx g.2.1) (gmM g.2.1))))).run = some (toYf (L := FL_g f) (E := FE_u f) (fun g => mk_2 f g.2) (pnU f) g (match foldN (stE (gmB g.2.1) (gmO g.2.1)) 0 (nBx g.2.1) (gmM g.2.1) with
      | .inl ms => foldN (lvE (gmL g.2.1) (gmT g.2.1) (gmS g.2.1)) 0 (nBx g.2.1) (ms, gmO g.2.1, gk g.2)
      | .inr e => .inr e))
    cases h1 : foldN (stE (gmB g.2.1) (gmO g.2.1)) 0 (nBx g.2.1) (gmM g.2.1) with
    | inr e =>
      have h1 : isP 44 .i64 (some (res_m1 f g.2 (.inr e))) = true := isP_some
      have h2 : panO 44 .i64 (some (res_m1 f g.2 (.inr e))) = ⟨e, ((), ())⟩ := panO_some
      unfold k1_mv
      rw [h1, h2]
      rfl
    | inl ms =>
      have hms : ms.length = nBx g.2.1 := foldN_inv (n := nBx g.2.1) (Inv := fun _ (s : Mots) => s.length = nBx g.2.1) inv_m1 (nBx g.2.1) 0 _ _ (by omega) hg.ms h1
      have hz : y_m2 f (gb (gmU g.2.1 ms (gmO g.2.1)) (gk g.2)) = some (res_m2 f (gb (gmU g.2.1 ms (gmO g.2.1)) (gk g.2)) (foldN (lvE (gmL g.2.1) (gmT g.2.1) (gmS g.2.1)) 0 (nBx g.2.1) (ms, gmO g.2.1, gk g.2))) :=
        it_m2 (n := nBx g.2.1) (x := gb (gmU g.2.1 ms (gmO g.2.1)) (gk g.2)) (s := (ms, gmO g.2.1, gk g.2)) (k := (gk g.2).length) hg.n hk ⟨hms, hg.os, by simp⟩
      show (k2_mv f (y_m2 f (gb (gmU g.2.1 ms (gmO g.2.1)) (gk g.2)))).run = some (toYf (L := FL_g f) (E := FE_u f) (fun g => mk_2 f g.2) (pnU f) g (foldN (lvE (gmL g.2.1) (gmT g.2.1) (gmS g.2.1)) 0 (nBx g.2.1) (ms, gmO g.2.1, gk g.2)))
      rw [hz]
      obtain ⟨s', hs'⟩ := foldN_inl (lvE_inl (l := gmL g.2.1) (t := gmT g.2.1) (st := gmS g.2.1)) (nBx g.2.1) 0 (ms, gmO g.2.1, gk g.2)
      rw [hs']
      rfl
theorem sp_mv_t : SpecOk Tryz.prog 123 (sp_mv 67) := fspecY (X_mv_ok sp_ro_t sp_fl_t l_m1_t l_m2_t) 6 FE_u_nx _ _ _ _ (fun g => T_mv 67 g.2) (fun g => by kernel_rfl) fun _ _ _ h => mv_run h
theorem sp_mv_r : SpecOk Tryz.prog 123 (sp_mv 144) := fspecY (X_mv_ok sp_ro_r sp_fl_r l_m1_r l_m2_r) 6 FE_u_nx _ _ _ _ (fun g => T_mv 144 g.2) (fun g => by kernel_rfl) fun _ _ _ h => mv_run h
end St
end V
end Go.Proofs.YtkiaifmbbnnliaaGreat
namespace Go.Proofs.YtkiaifmbbnnliaaGreat
open Go.RowKit
namespace V
def prOk (n : Nat) (p : TCT cPair) : Prop := 0 ≤ p.1 ∧ p.1 < p.2.1 ∧ p.2.1 < (n : Int)
theorem sStep_pr {l : List (TCT cBall)} {re dr : Int} {i k n : Nat} {s s' : SS} (h : sStep l re dr i k s = some s') (hik : i < k) (hk : k < n) (hs : ∀ p ∈ s.2, prOk n p) : ∀ p ∈ s'.2, prOk n p := by
  unfold sStep at h
  cases h1 : (BounceR (bAt l s.1 i) (bAt l s.1 k) re dr).2.2.1 == 0 with
  | true =>
    rw [h1] at h
    simp only [cond_true, Option.some.injEq] at h
    subst h
    intro p hp
    rcases List.mem_append.1 hp with hp | hp
    · exact hs p hp
    · rw [List.mem_singleton] at hp
      subst hp
      exact ⟨Int.natCast_nonneg i, Int.ofNat_lt.2 hik, Int.ofNat_lt.2 hk⟩
  | false =>
    rw [h1, cond_false] at h
    cases h2 : (BounceR (bAt l s.1 i) (bAt l s.1 k) re dr).2.2.1 == 4 with
    | true => rw [h2] at h; simp at h
    | false => rw [h2] at h; simp only [cond_false, Option.some.injEq] at h; subst h; exact hs
theorem inR_pr {l : List (TCT cBall)} {re dr : Int} {i n : Nat} : ∀ (f k : Nat) (s s' : SS), inR l re dr i f k s = some s' → i < k → k + f ≤ n → (∀ p ∈ s.2, prOk n p) → ∀ p ∈ s'.2, prOk n p
  | 0, k, s, s', h, _, _, hs => by rw [inR, Option.some.injEq] at h; subst h; exact hs
  | f + 1, k, s, s', h, hik, hk, hs => by
    rw [inR] at h
    cases h1 : sStep l re dr i k s with
    | none => rw [h1] at h; simp at h
    | some s1 =>
      rw [h1, Option.bind_some] at h
      exact inR_pr f (k + 1) s1 s' h (by omega) (by omega) (sStep_pr h1 hik (by omega) hs)
theorem outR_pr {l : List (TCT cBall)} {re dr : Int} : ∀ (f i : Nat) (s s' : SS), outR l re dr f i s = some s' → i + f = l.length → (∀ p ∈ s.2, prOk l.length p) → (∀ p ∈ s'.2, prOk l.length p) ∧ s'.1.length = s.1.length ∧ s'.2.length ≤ s.2.length + f * l.length
  | 0, i, s, s', h, _, hs => by rw [outR_zero, Option.some.injEq] at h; subst h; exact ⟨hs, rfl, by omega⟩
  | f + 1, i, s, s', h, hi, hs => by
    rw [outR_succ] at h
    cases h1 : inR l re dr i (l.length - (i + 1)) (i + 1) s with
    | none => rw [h1] at h; simp at h
    | some s1 =>
      rw [h1, Option.bind_some] at h
      have a := inR_len _ _ _ _ h1
      have b := outR_pr f (i + 1) s1 s' h (by omega) (inR_pr _ _ _ _ h1 (by omega) (by omega) hs)
      refine ⟨b.1, b.2.1.trans a.1, ?_⟩
      have e : (f + 1) * l.length = f * l.length + l.length := Nat.succ_mul f l.length
      omega
theorem settle_ok {l : List (TCT cBall)} {s : List (TCT cMot)} {re dr : Int} (h : (SettleR l s re dr).2.2.1 = 0) (hl : l.length ≤ 8) : (SettleR l s re dr).1.length = s.length ∧ (SettleR l s re dr).2.1.length ≤ 64 ∧ ∀ p ∈ (SettleR l s re dr).2.1, prOk l.length p := by
  unfold SettleR at h ⊢
  cases h1 : chkR l s != 0 with
  | true => rw [h1, cond_true] at h; exact absurd h (bne_iff_ne.1 h1)
  | false =>
    rw [h1, cond_false] at h
    simp only [cond_false]
    cases h2 : !bncB re dr with
    | true => rw [h2] at h; cases h
    | false =>
      rw [h2, cond_false] at h
      simp only [cond_false]
      cases h3 : outR l re dr l.length 0 (s, []) with
      | none => rw [h3] at h; cases h
      | some s' =>
        have a := outR_pr _ _ _ _ h3 (by omega) (fun p hp => nomatch hp)
        refine ⟨a.2.1, ?_, a.1⟩
        have b : s'.2.length ≤ 0 + l.length * l.length := a.2.2
        have c : l.length * l.length ≤ 8 * 8 := Nat.mul_le_mul hl hl
        show s'.2.length ≤ 64
        omega
end V
end Go.Proofs.YtkiaifmbbnnliaaGreat
namespace Go.Proofs.YtkiaifmbbnnliaaGreat
open Go.RowKit
namespace V
def unE {S : Type} : S ⊕ Empty → S
  | .inl s => s
  | .inr e => nomatch e
theorem unE_eq {S : Type} (x : S ⊕ Empty) : x = .inl (unE x) := by
  cases x with
  | inl s => rfl
  | inr e => exact nomatch e
namespace St
abbrev kI : SK := .o 3 cI
abbrev kBa : SK := .o 117 cBall
abbrev kMo : SK := .o 62 cMot
noncomputable def lb_s1 : Code := (loopsOf (bodyOf Tryz.f58)).getD 0 .skip
noncomputable def lb_s2 : Code := (loopsOf (bodyOf Tryz.f58)).getD 1 .skip
noncomputable def lb_s3 : Code := (loopsOf (bodyOf Tryz.f58)).getD 2 .skip
def L_s1 (f : Nat) : Lay := { keys := [0, 2, 3, 4, 18, 19, 20], ks := [.p 0 0 0 0, kI, kBa, kMo, .d (.sl cBall), .d cI, .d cI], bs := bsG f, n := 113, nx := 2000, marks := [] }
def R_s1 (f : Nat) : Lay := { keys := [0, 2, 3, 4], ks := [.p 0 0 0 0, kI, kBa, kMo], bs := bsG f, n := 113, nx := 2000, marks := [] }
def E_s1 (f : Nat) : XE → Lay := fun _ => R_s1 f
abbrev GA : Type := List Int × List (TCT cBall) × Mots
def hd_s1 (f : Nat) (x : GB) (bl : List (TCT cBall)) (n i : Int) (s : GA) : (L_s1 f).T := (((), s.1, s.2.1, s.2.2, bl, n, i, ()), x)
def ex_s1 (f : Nat) (x : GB) (s : GA) : Left' (E_s1 f) := ⟨.exit 0, (((), s.1, s.2.1, s.2.2, ()), x)⟩
abbrev TS1 (f : Nat) := Tree ((L_s1 f).T ⊕ Left' (E_s1 f))
def ap8 {β : Type} (w : List Int) (i : Int) (k : Tree β) : Tree β := bif appOk w [i] 8 then k else .fail
def ap16 {β : Type} (w : List (TCT cBall)) (i : TCT cBall) (k : Tree β) : Tree β := bif appOk w [i] 16 then k else .fail
def ap48 {β : Type} (w : Mots) (i : TCT cMot) (k : Tree β) : Tree β := bif appOk w [i] 48 then k else .fail
theorem ap8_ok {β : Type} {w : List Int} {i : Int} {k : Tree β} (h : w.length ≤ 1000) : ap8 w i k = k := by unfold ap8; rw [app_ok (by simp; omega) (by decide)]; rfl
theorem ap16_ok {β : Type} {w : List (TCT cBall)} {i : TCT cBall} {k : Tree β} (h : w.length ≤ 1000) : ap16 w i k = k := by unfold ap16; rw [app_ok (by simp; omega) (by decide)]; rfl
theorem ap48_ok {β : Type} {w : Mots} {i : TCT cMot} {k : Tree β} (h : w.length ≤ 1000) : ap48 w i k = k := by unfold ap48; rw [app_ok (by simp; omega) (by decide)]; rfl
def ga1 (i : Int) (b : TCT cBall) (m : TCT cMot) (s : GA) : GA := (s.1 ++ [i], s.2.1 ++ [b], s.2.2 ++ [m])
def st_s1' (f : Nat) (x : GB) (bl : List (TCT cBall)) (n i : Int) (s : GA) : TS1 f := bif decide (i < n) then inN bl.length i (inO (gmO x.1).length i (
  bif !getA (gmO x.1) (Int.toNat i) (dflt .b) then bif !flyB (gmW x.1) (gmF x.1) i then inO (gmM x.1).length i (ap8 s.1 i (ap16 s.2.1 (getB bl (Int.toNat i)) (ap48 s.2.2 (getM (gmM x.1) (Int.toNat i))
    (.leaf (.inl (hd_s1 f x bl n (W64 (i + 1)) (ga1 i (getB bl (Int.toNat i)) (getM (gmM x.1) (Int.toNat i)) s)))))))
  else .leaf (.inl (hd_s1 f x bl n (W64 (i + 1)) s)) else .leaf (.inl (hd_s1 f x bl n (W64 (i + 1)) s)))) else .leaf (.inr (ex_s1 f x s))
def st_s1 (f : Nat) (g : (L_s1 f).T) : TS1 f := st_s1' f g.2 g.1.2.2.2.2.1 g.1.2.2.2.2.2.1 g.1.2.2.2.2.2.2.1 (g.1.2.1, g.1.2.2.1, g.1.2.2.2.1)
def fu_s1 (f : Nat) (g : (L_s1 f).T) : Nat := Int.toNat g.1.2.2.2.2.2.1 + 1
def sm_s1 (f : Nat) : St → Tree (XE × St) := loopSum (L_s1 f) (E_s1 f) (finX [.exit 0] (st_s1 f) (fu_s1 f))
theorem E_s1_nx {f : Nat} (e : XE) : (L_s1 f).nx ≤ (E_s1 f e).nx := Nat.le_refl _
def gaE (bl : List (TCT cBall)) (ms : Mots) (os : List Bool) (w fl : Int) (i : Nat) (s : GA) : GA ⊕ Empty := .inl (bif !getA os i (dflt .b) && !flyB w fl i then ga1 i (getB bl i) (getM ms i) s else s)
def gaV (bl : List (TCT cBall)) (w fl : Int) (n : Nat) (ms : Mots) (os : List Bool) : GA := unE (foldN (gaE bl ms os w fl) 0 n ([], [], []))
structure InvG (n i : Nat) (s : GA) : Prop where
  b : s.2.1.length = s.1.length
  m : s.2.2.length = s.1.length
  k : s.1.length ≤ i
  r : ∀ w ∈ s.1, 0 ≤ w ∧ w < (n : Int)
theorem inv_s1 {bl : List (TCT cBall)} {ms : Mots} {os : List Bool} {w fl : Int} {n : Nat} (i : Nat) (s s' : GA) (hi : i < n) (h : InvG n i s) (h2 : gaE bl ms os w fl i s = .inl s') : InvG n (i + 1) s' := by
  unfold gaE at h2
  have hb := h.b
  have hm := h.m
  have hk := h.k
  cases hc : !getA os i (dflt .b) && !flyB w fl i with
  | false =>
    rw [hc] at h2
    simp only [cond_false, Sum.inl.injEq] at h2
    subst h2
    exact ⟨hb, hm, by omega, h.r⟩
  | true =>
    rw [hc] at h2
    simp only [cond_true, Sum.inl.injEq] at h2
    subst h2
    refine ⟨by simp [ga1, hb], by simp [ga1, hm], by simp [ga1]; omega, fun v hv => ?_⟩
    rcases List.mem_append.1 hv with hv | hv
    · exact h.r v hv
    · rw [List.mem_singleton] at hv; subst hv; omega
theorem gaV_inv {bl : List (TCT cBall)} {w fl : Int} {n : Nat} {ms : Mots} {os : List Bool} : InvG n n (gaV bl w fl n ms os) :=
  foldN_inv (n := n) (Inv := InvG n) inv_s1 n 0 _ _ (by omega) ⟨rfl, rfl, Nat.le_refl _, fun _ h => absurd h List.not_mem_nil⟩ (unE_eq (foldN (gaE bl ms os w fl) 0 n ([], [], [])))
def res_s1 (f : Nat) (x : GB) (r : GA ⊕ Empty) : Left' (E_s1 f) := ex_s1 f x (unE r)
theorem it_s1 {f : Nat} {x : GB} (hx : OkGM x.1) : iter (st_s1 f) (nBx x.1 + 1) (hd_s1 f x (gmB x.1) (nBx x.1) 0 ([], [], [])) = some (ex_s1 f x (gaV (gmB x.1) (gmW x.1) (gmF x.1) (nBx x.1) (gmM x.1) (gmO x.1))) := by
  have hn8 := hx.n
  have hos := hx.os
  have hms := hx.ms
  have hn : (nBx x.1 : Int) ≤ maxK .i64 := by show (nBx x.1 : Int) ≤ 9223372036854775807; omega
  refine iter_n (nBx x.1) (fun i s => hd_s1 f x (gmB x.1) (nBx x.1) i s) (gaE (gmB x.1) (gmM x.1) (gmO x.1) (gmW x.1) (gmF x.1)) (res_s1 f x) (InvG (nBx x.1)) (fun i s hi hl => ?_) inv_s1 (fun s hl => ?_) (nBx x.1) 0 ([], [], []) (by omega) ⟨rfl, rfl, Nat.le_refl _, fun _ h => absurd h List.not_mem_nil⟩
  · show Tree.run (bif decide ((i : Int) < (nBx x.1 : Int)) then inN (nBx x.1) i (inO (gmO x.1).length i (
      bif !getA (gmO x.1) i (dflt .b) then bif !flyB (gmW x.1) (gmF x.1) i then inO (gmM x.1).length i (ap8 s.1 i (ap16 s.2.1 (getB (gmB x.1) i) (ap48 s.2.2 (getM (gmM x.1) i)
        (.leaf (.inl (hd_s1 f x (gmB x.1) (nBx x.1) (W64 (i + 1)) (ga1 i (getB (gmB x.1) i) (getM (gmM x.1) i) s)))))))
      else .leaf (.inl (hd_s1 f x (gmB x.1) (nBx x.1) (W64 (i + 1)) s)) else .leaf (.inl (hd_s1 f x (gmB x.1) (nBx x.1) (W64 (i + 1)) s)))) else .leaf (.inr (ex_s1 f x s)) : TS1 f) = _
    have h1 := hl.b
    have h2 := hl.m
    have h3 := hl.k
    rw [decide_eq_true (show (i : Int) < (nBx x.1 : Int) by omega), inN_ok (by omega), inO_ok (by omega), inO_ok (by omega), ap8_ok (by omega), ap16_ok (by omega), ap48_ok (by omega), W64_succ hi hn]
    unfold gaE
    cases getA (gmO x.1) i (dflt .b) with
    | true => rfl
    | false => cases flyB (gmW x.1) (gmF x.1) i <;> rfl
  · show (st_s1' f x (gmB x.1) (nBx x.1) (nBx x.1) s).run = _
    unfold st_s1'
    rw [decide_eq_false (show ¬ (nBx x.1 : Int) < (nBx x.1 : Int) by omega)]
    rfl
def L_s2 (f : Nat) : Lay := { keys := [0, 2, 4, 7, 75, 76, 77], ks := [.p 0 0 0 0, .d (.sl cI), .d (.sl cMot), .d (.sl cPair), .d (.sl cI), .d cI, .d cI], bs := bsG f, n := 113, nx := 3000, marks := [] }
def R_s2 (f : Nat) : Lay := { keys := [0, 2, 7], ks := [.p 0 0 0 0, .d (.sl cI), .d (.sl cPair)], bs := bsG f, n := 113, nx := 3000, marks := [] }
def E_s2 (f : Nat) : XE → Lay := fun _ => R_s2 f
abbrev Prs : Type := List (TCT cPair)
def hd_s2 (f : Nat) (x : GB) (W : List Int) (M : Mots) (P : Prs) (W2 : List Int) (n i : Int) (ms : Mots) : (L_s2 f).T := (((), W, M, P, W2, n, i, ()), gb (gmU x.1 ms (gmO x.1)) (gk x))
def ex_s2 (f : Nat) (x : GB) (W : List Int) (P : Prs) (ms : Mots) : Left' (E_s2 f) := ⟨.exit 2, (((), W, P, ()), gb (gmU x.1 ms (gmO x.1)) (gk x))⟩
abbrev TS2 (f : Nat) := Tree ((L_s2 f).T ⊕ Left' (E_s2 f))
def st_s2' (f : Nat) (x : GB) (W : List Int) (M : Mots) (P : Prs) (W2 : List Int) (n i : Int) (ms : Mots) : TS2 f := bif decide (i < n) then inN W2.length i (inN M.length i (inO ms.length (getA W2 (Int.toNat i) (dflt cI)) (
  .leaf (.inl (hd_s2 f x W M P W2 n (W64 (i + 1)) (setA ms (Int.toNat (getA W2 (Int.toNat i) (dflt cI))) (getM M (Int.toNat i)))))))) else .leaf (.inr (ex_s2 f x W P ms))
def st_s2 (f : Nat) (g : (L_s2 f).T) : TS2 f := st_s2' f g.2 g.1.2.1 g.1.2.2.1 g.1.2.2.2.1 g.1.2.2.2.2.1 g.1.2.2.2.2.2.1 g.1.2.2.2.2.2.2.1 (gmM g.2.1)
def fu_s2 (f : Nat) (g : (L_s2 f).T) : Nat := Int.toNat g.1.2.2.2.2.2.1 + 1
def sm_s2 (f : Nat) : St → Tree (XE × St) := loopSum (L_s2 f) (E_s2 f) (finX [.exit 2] (st_s2 f) (fu_s2 f))
theorem E_s2_nx {f : Nat} (e : XE) : (L_s2 f).nx ≤ (E_s2 f e).nx := Nat.le_refl _
def scE (W : List Int) (M : Mots) (i : Nat) (ms : Mots) : Mots ⊕ Empty := .inl (setA ms (Int.toNat (getA W i (dflt cI))) (getM M i))
def scV (W : List Int) (M ms : Mots) : Mots := unE (foldN (scE W M) 0 W.length ms)
theorem inv_s2 {W : List Int} {M : Mots} {n k : Nat} (i : Nat) (s s' : Mots) (_ : i < n) (h : s.length = k) (h2 : scE W M i s = .inl s') : s'.length = k := by
  cases h2
  rw [setA_len]; exact h
theorem scV_len {W : List Int} {M ms : Mots} : (scV W M ms).length = ms.length :=
  foldN_inv (n := W.length) (Inv := fun _ (s : Mots) => s.length = ms.length) inv_s2 W.length 0 ms _ (by omega) rfl (unE_eq (foldN (scE W M) 0 W.length ms))
def res_s2 (f : Nat) (x : GB) (W : List Int) (P : Prs) (r : Mots ⊕ Empty) : Left' (E_s2 f) := ex_s2 f x W P (unE r)
theorem it_s2 {f : Nat} {x : GB} {W : List Int} {M : Mots} {P : Prs} {ms : Mots} {n : Nat} (hW : ∀ w ∈ W, 0 ≤ w ∧ w < (n : Int)) (hM : M.length = W.length) (hms : ms.length = n) (hl : W.length ≤ 1000) :
    iter (st_s2 f) (W.length + 1) (hd_s2 f x W M P W W.length 0 ms) = some (ex_s2 f x W P (scV W M ms)) := by
  have hn : (W.length : Int) ≤ maxK .i64 := by show (W.length : Int) ≤ 9223372036854775807; omega
  refine iter_n W.length (fun i s => hd_s2 f x W M P W W.length i s) (scE W M) (res_s2 f x W P) (fun _ s => s.length = n) (fun i s hi hs => ?_) inv_s2 (fun s hs => ?_) W.length 0 ms (by omega) hms
  · show (st_s2' f (gb (gmU x.1 s (gmO x.1)) (gk x)) W M P W W.length i s).run = _
    have hw := hW (getA W i (dflt cI)) (by rw [getA_lt hi]; exact List.getElem_mem hi)
    unfold st_s2'
    rw [decide_eq_true (show (i : Int) < (W.length : Int) by omega), inN_ok (by omega), inN_ok (by omega), show Int.toNat (i : Int) = i from rfl, inO_ok (by omega), W64_succ hi hn]
    rfl
  · show (st_s2' f (gb (gmU x.1 s (gmO x.1)) (gk x)) W M P W W.length W.length s).run = _
    unfold st_s2'
    rw [decide_eq_false (show ¬ (W.length : Int) < (W.length : Int) by omega)]
    rfl
def L_s3 (f : Nat) : Lay := { keys := [0, 2, 94, 95, 96], ks := [.p 0 0 0 0, .d (.sl cI), .d (.sl cPair), .d cI, .d cI], bs := bsG f, n := 113, nx := 4000, marks := [] }
def R_s3 (f : Nat) : Lay := { keys := [], ks := [], bs := bsG f, n := 113, nx := 4000, marks := [] }
def E_s3 (f : Nat) : XE → Lay := fun _ => R_s3 f
def hd_s3 (f : Nat) (x : GB) (W : List Int) (P : Prs) (n i : Int) (ks : Kns) : (L_s3 f).T := (((), W, P, n, i, ()), gb x.1 ks)
def ex_s3 (f : Nat) (x : GB) (ks : Kns) : Left' (E_s3 f) := ⟨.exit 4, ((), gb x.1 ks)⟩
abbrev TS3 (f : Nat) := Tree ((L_s3 f).T ⊕ Left' (E_s3 f))
def getP (P : Prs) (i : Nat) : TCT cPair := getA P i (dflt cPair)
def knP (t st : Int) (W : List Int) (p : TCT cPair) : TCT cKn := kn t st 0 (getA W (Int.toNat p.1) (dflt cI)) (getA W (Int.toNat p.2.1) (dflt cI))
def st_s3' (f : Nat) (x : GB) (W : List Int) (P : Prs) (n i : Int) (ks : Kns) : TS3 f := bif decide (i < n) then inN P.length i (inN W.length (getP P (Int.toNat i)).1 (inN W.length (getP P (Int.toNat i)).2.1 (
  appK ks (knP (gmT x.1) (gmS x.1) W (getP P (Int.toNat i))) fun ks' => .leaf (.inl (hd_s3 f x W P n (W64 (i + 1)) ks'))))) else .leaf (.inr (ex_s3 f x ks))
def st_s3 (f : Nat) (g : (L_s3 f).T) : TS3 f := st_s3' f g.2 g.1.2.1 g.1.2.2.1 g.1.2.2.2.1 g.1.2.2.2.2.1 (gk g.2)
def fu_s3 (f : Nat) (g : (L_s3 f).T) : Nat := Int.toNat g.1.2.2.2.1 + 1
def sm_s3 (f : Nat) : St → Tree (XE × St) := loopSum (L_s3 f) (E_s3 f) (finX [.exit 4] (st_s3 f) (fu_s3 f))
theorem E_s3_nx {f : Nat} (e : XE) : (L_s3 f).nx ≤ (E_s3 f e).nx := Nat.le_refl _
def kpE (W : List Int) (P : Prs) (t st : Int) (i : Nat) (ks : Kns) : Kns ⊕ Empty := .inl (ks ++ [knP t st W (getP P i)])
def kpV (W : List Int) (P : Prs) (t st : Int) (ks : Kns) : Kns := unE (foldN (kpE W P t st) 0 P.length ks)
theorem inv_s3 {W : List Int} {P : Prs} {t st : Int} {n k : Nat} (i : Nat) (s s' : Kns) (_ : i < n) (h : s.length = k + i) (h2 : kpE W P t st i s = .inl s') : s'.length = k + (i + 1) := by
  cases h2
  simp only [List.length_append, List.length_singleton]
  omega
theorem kpV_len {W : List Int} {P : Prs} {t st : Int} {ks : Kns} : (kpV W P t st ks).length = ks.length + P.length :=
  foldN_inv (n := P.length) (Inv := fun i (s : Kns) => s.length = ks.length + i) inv_s3 P.length 0 ks _ (by omega) rfl (unE_eq (foldN (kpE W P t st) 0 P.length ks))
def res_s3 (f : Nat) (x : GB) (r : Kns ⊕ Empty) : Left' (E_s3 f) := ex_s3 f x (unE r)
theorem it_s3 {f : Nat} {x : GB} {W : List Int} {P : Prs} {ks : Kns} (hP : ∀ p ∈ P, prOk W.length p) (hk : ks.length ≤ 900000) (hl : P.length ≤ 1000) :
    iter (st_s3 f) (P.length + 1) (hd_s3 f x W P P.length 0 ks) = some (ex_s3 f x (kpV W P (gmT x.1) (gmS x.1) ks)) := by
  have hn : (P.length : Int) ≤ maxK .i64 := by show (P.length : Int) ≤ 9223372036854775807; omega
  refine iter_n P.length (fun i s => hd_s3 f x W P P.length i s) (kpE W P (gmT x.1) (gmS x.1)) (res_s3 f x) (fun i s => s.length = ks.length + i) (fun i s hi hs => ?_) inv_s3 (fun s hs => ?_) P.length 0 ks (by omega) rfl
  · show (st_s3' f (gb x.1 s) W P P.length i s).run = _
    have hp := hP (getP P i) (by unfold getP; rw [getA_lt hi]; exact List.getElem_mem hi)
    unfold st_s3' appK
    rw [decide_eq_true (show (i : Int) < (P.length : Int) by omega), inN_ok (by omega), show Int.toNat (i : Int) = i from rfl, inN_ok ⟨hp.1, Int.lt_trans hp.2.1 hp.2.2⟩, inN_ok ⟨Int.le_trans hp.1 (Int.le_of_lt hp.2.1), hp.2.2⟩, app_ok (by simp; omega) (by decide), W64_succ hi hn]
    rfl
  · show (st_s3' f (gb x.1 s) W P P.length P.length s).run = _
    unfold st_s3'
    rw [decide_eq_false (show ¬ (P.length : Int) < (P.length : Int) by omega)]
    rfl
theorem l_s1_t : LoopOk Tryz.prog 58 lb_s1 (sm_s1 67) := loopOk_x0 (X_g3_ok is_Tick1 sp_ro_t sp_fl_t) 7 _ _ _ E_s1_nx _ _ (fu_s1 67) (fun g => by kernel_rfl)
theorem l_s2_t : LoopOk Tryz.prog 58 lb_s2 (sm_s2 67) := loopOk_x0 (X_g3_ok is_Tick1 sp_ro_t sp_fl_t) 7 _ _ _ E_s2_nx _ _ (fu_s2 67) (fun g => by kernel_rfl)
theorem l_s3_t : LoopOk Tryz.prog 58 lb_s3 (sm_s3 67) := loopOk_x0 (X_g3_ok is_Tick1 sp_ro_t sp_fl_t) 7 _ _ _ E_s3_nx _ _ (fu_s3 67) (fun g => by kernel_rfl)
theorem l_s1_s : LoopOk Tryz.prog 58 lb_s1 (sm_s1 53) := loopOk_x0 (X_g3_ok is_Strike1 sp_ro_s sp_fl_s) 7 _ _ _ E_s1_nx _ _ (fu_s1 53) (fun g => by kernel_rfl)
theorem l_s2_s : LoopOk Tryz.prog 58 lb_s2 (sm_s2 53) := loopOk_x0 (X_g3_ok is_Strike1 sp_ro_s sp_fl_s) 7 _ _ _ E_s2_nx _ _ (fu_s2 53) (fun g => by kernel_rfl)
theorem l_s3_s : LoopOk Tryz.prog 58 lb_s3 (sm_s3 53) := loopOk_x0 (X_g3_ok is_Strike1 sp_ro_s sp_fl_s) 7 _ _ _ E_s3_nx _ _ (fu_s3 53) (fun g => by kernel_rfl)
theorem l_s1_r : LoopOk Tryz.prog 58 lb_s1 (sm_s1 144) := loopOk_x0 (X_g3_ok is_run1 sp_ro_r sp_fl_r) 7 _ _ _ E_s1_nx _ _ (fu_s1 144) (fun g => by kernel_rfl)
theorem l_s2_r : LoopOk Tryz.prog 58 lb_s2 (sm_s2 144) := loopOk_x0 (X_g3_ok is_run1 sp_ro_r sp_fl_r) 7 _ _ _ E_s2_nx _ _ (fu_s2 144) (fun g => by kernel_rfl)
theorem l_s3_r : LoopOk Tryz.prog 58 lb_s3 (sm_s3 144) := loopOk_x0 (X_g3_ok is_run1 sp_ro_r sp_fl_r) 7 _ _ _ E_s3_nx _ _ (fu_s3 144) (fun g => by kernel_rfl)
end St
end V
end Go.Proofs.YtkiaifmbbnnliaaGreat
namespace Go.Proofs.YtkiaifmbbnnliaaGreat
open Go.RowKit
namespace V
namespace St
def gmC (m : GM) : TCT cBnc := (m.2.2.2.2.2.2.2.2.2.2.2.2.1, m.2.2.2.2.2.2.2.2.2.2.2.2.2.1, ())
noncomputable def X_se (f : Nat) : Ctx := ctxS Tryz.prog plGm [(58, Tryz.f58), (57, Tryz.f57)] [((58, 4), sm_s1 f), ((58, 12), sm_s2 f), ((58, 17), sm_s3 f)] (spG f)
theorem X_se_ok {f : Nat} (h1 : SpecOk Tryz.prog 159 (sp_ro f)) (h2 : SpecOk Tryz.prog 113 (sp_fl f)) (l1 : LoopOk Tryz.prog 58 lb_s1 (sm_s1 f)) (l2 : LoopOk Tryz.prog 58 lb_s2 (sm_s2 f)) (l3 : LoopOk Tryz.prog 58 lb_s3 (sm_s3 f)) : CtxOk (X_se f) :=
  ctxS_ok mixed puGm (fns_cons is_gsettle (fns_cons is_must fns_nil)) (loops_cons (loops_of (ds := [lb_s1, lb_s2, lb_s3]) (by kernel_rfl) ⟨one_key (k := 4) (by kernel_rfl) rfl l1, one_key (k := 12) (by kernel_rfl) rfl l2, one_key (k := 17) (by kernel_rfl) rfl l3, trivial⟩) (loops_cons (loops_none (by kernel_rfl)) loops_nil)) (two_spec is_rolls.plain h1 is_flies.plain h2)
def seG (bl : List (TCT cBall)) (w fl : Int) (n : Nat) (s : S2) : GA := gaV bl w fl n s.1 s.2.1
def seS (bl : List (TCT cBall)) (bc : TCT cBnc) (w fl : Int) (n : Nat) (s : S2) : RSet := SettleR (seG bl w fl n s).2.1 (seG bl w fl n s).2.2 bc.1 bc.2.1
def seF (bl : List (TCT cBall)) (bc : TCT cBnc) (t st w fl : Int) (n : Nat) (s : S2) : (Mots × Kns) ⊕ Int :=
  bif (seS bl bc w fl n s).2.2.1 != 0 then .inr (seS bl bc w fl n s).2.2.1 else .inl (scV (seG bl w fl n s).1 (seS bl bc w fl n s).1 s.1, kpV (seG bl w fl n s).1 (seS bl bc w fl n s).2.1 t st s.2.2)
def k3_se (f : Nat) (y : Option (Left' (E_s3 f))) : TU f := bif isE (.exit 4) y then .leaf ⟨true, ((), (valE (.exit 4) y).2)⟩ else .fail
def y_s3 (f : Nat) (x : GB) (W : List Int) (P : Prs) : Option (Left' (E_s3 f)) := iter (st_s3 f) (P.length + 1) (hd_s3 f x W P P.length 0 (gk x))
def k2_se (f : Nat) (y : Option (Left' (E_s2 f))) : TU f := bif isE (.exit 2) y then k3_se f (y_s3 f (valE (.exit 2) y).2 (valE (.exit 2) y).1.2.1 (valE (.exit 2) y).1.2.2.1) else .fail
def y_s2 (f : Nat) (x : GB) (W : List Int) (M : Mots) (P : Prs) : Option (Left' (E_s2 f)) := iter (st_s2 f) (W.length + 1) (hd_s2 f x W M P W W.length 0 (gmM x.1))
def k1b_se (f : Nat) (x : GB) (W : List Int) (r : RSet) : TU f := bif r.2.2.1 != 0 then .leaf ⟨false, pnU f r.2.2.1⟩ else k2_se f (y_s2 f x W r.1 r.2.1)
def k1_se (f : Nat) (y : Option (Left' (E_s1 f))) : TU f := bif isE (.exit 0) y then k1b_se f (valE (.exit 0) y).2 (valE (.exit 0) y).1.2.1 (SettleR (valE (.exit 0) y).1.2.2.1 (valE (.exit 0) y).1.2.2.2.1 (gmC (valE (.exit 0) y).2.1).1 (gmC (valE (.exit 0) y).2.1).2.1) else .fail
def y_s1 (f : Nat) (x : GB) : Option (Left' (E_s1 f)) := iter (st_s1 f) (nBx x.1 + 1) (hd_s1 f x (gmB x.1) (nBx x.1) 0 ([], [], []))
def T_se (f : Nat) (x : GB) : TU f := k1_se f (y_s1 f x)
def Y_se (x : GB) : Option ((Mots × Kns) ⊕ Int) := bif okGB x then some (seF (gmB x.1) (gmC x.1) (gmT x.1) (gmS x.1) (gmW x.1) (gmF x.1) (nBx x.1) (gs x)) else none
def mk_mk (f : Nat) (x : GB) (s : Mots × Kns) : (FE_u f true).T := mkU f (gb (gmU x.1 s.1 (gmO x.1)) s.2)
abbrev sp_se (f : Nat) : Heap → Nat → List AV → Tree (Out × Heap × Nat) := fspec probeG (FL_g f) (FE_u f) (finY (fun g : (FL_g f).T => Y_se g.2) (fun g => mk_mk f g.2) (pnU f) ([], []))
theorem seS_ok {bl : List (TCT cBall)} {bc : TCT cBnc} {w fl : Int} {n : Nat} {s : S2} (hn : n ≤ 8) (h : (seS bl bc w fl n s).2.2.1 = 0) : (seS bl bc w fl n s).1.length = (seG bl w fl n s).1.length ∧ (seS bl bc w fl n s).2.1.length ≤ 64 ∧ ∀ p ∈ (seS bl bc w fl n s).2.1, prOk (seG bl w fl n s).1.length p := by
  have hg : InvG n n (seG bl w fl n s) := gaV_inv
  have a := settle_ok (l := (seG bl w fl n s).2.1) (s := (seG bl w fl n s).2.2) (re := bc.1) (dr := bc.2.1) h (by rw [hg.b]; have := hg.k; omega)
  rw [hg.b] at a
  exact ⟨a.1.trans hg.m, a.2.1, a.2.2⟩
theorem se_run {f : Nat} {g : (FL_g f).T} {z : (Mots × Kns) ⊕ Int} (h : Y_se g.2 = some z) : (T_se f g.2).run = some (toYf (L := FL_g f) (E := FE_u f) (fun g => mk_mk f g.2) (pnU f) g z) := by
  unfold Y_se at h
  cases ho : okGB g.2 with
  | false => rw [ho] at h; cases h
  | true =>
    rw [ho] at h
    cases h
    obtain ⟨hg, hk⟩ := okGB_iff ho
    unfold T_se
    rw [show y_s1 f g.2 = some (ex_s1 f g.2 (seG (gmB g.2.1) (gmW g.2.1) (gmF g.2.1) (nBx g.2.1) (gs g.2))) from it_s1 hg]
    show (k1b_se f g.2 (seG (gmB g.2.1) (gmW g.2.1) (gmF g.2.1) (nBx g.2.1) (gs g.2)).1 (seS (gmB g.2.1) (gmC g.2.1) (gmW g.2.1) (gmF g.2.1) (nBx g.2.1) (gs g.2))).run = _
    unfold seF k1b_se
    have hn8 := hg.n
    cases he : (seS (gmB g.2.1) (gmC g.2.1) (gmW g.2.1) (gmF g.2.1) (nBx g.2.1) (gs g.2)).2.2.1 != 0 with
    | true => rfl
    | false =>
      have hs := seS_ok hn8 (bne_eq_false_iff_eq.1 he)
      have hi : InvG (nBx g.2.1) (nBx g.2.1) (seG (gmB g.2.1) (gmW g.2.1) (gmF g.2.1) (nBx g.2.1) (gs g.2)) := gaV_inv
      have hik := hi.k
      simp only [cond_false]
      rw [show y_s2 f g.2 (seG (gmB g.2.1) (gmW g.2.1) (gmF g.2.1) (nBx g.2.1) (gs g.2)).1 (seS (gmB g.2.1) (gmC g.2.1) (gmW g.2.1) (gmF g.2.1) (nBx g.2.1) (gs g.2)).1 (seS (gmB g.2.1) (gmC g.2.1) (gmW g.2.1) (gmF g.2.1) (nBx g.2.1) (gs g.2)).2.1 = _ from it_s2 hi.r hs.1 hg.ms (by omega)]
      show (k3_se f (y_s3 f (gb (gmU g.2.1 (scV (seG (gmB g.2.1) (gmW g.2.1) (gmF g.2.1) (nBx g.2.1) (gs g.2)).1 (seS (gmB g.2.1) (gmC g.2.1) (gmW g.2.1) (gmF g.2.1) (nBx g.2.1) (gs g.2)).1 (gmM g.2.1)) (gmO g.2.1)) (gk g.2)) (seG (gmB g.2.1) (gmW g.2.1) (gmF g.2.1) (nBx g.2.1) (gs g.2)).1 (seS (gmB g.2.1) (gmC g.2.1) (gmW g.2.1) (gmF g.2.1) (nBx g.2.1) (gs g.2)).2.1)).run = _
      have hs64 := hs.2.1
      rw [show y_s3 f (gb (gmU g.2.1 (scV (seG (gmB g.2.1) (gmW g.2.1) (gmF g.2.1) (nBx g.2.1) (gs g.2)).1 (seS (gmB g.2.1) (gmC g.2.1) (gmW g.2.1) (gmF g.2.1) (nBx g.2.1) (gs g.2)).1 (gmM g.2.1)) (gmO g.2.1)) (gk g.2)) (seG (gmB g.2.1) (gmW g.2.1) (gmF g.2.1) (nBx g.2.1) (gs g.2)).1 (seS (gmB g.2.1) (gmC g.2.1) (gmW g.2.1) (gmF g.2.1) (nBx g.2.1) (gs g.2)).2.1 = _ from it_s3 (x := gb (gmU g.2.1 (scV (seG (gmB g.2.1) (gmW g.2.1) (gmF g.2.1) (nBx g.2.1) (gs g.2)).1 (seS (gmB g.2.1) (gmC g.2.1) (gmW g.2.1) (gmF g.2.1) (nBx g.2.1) (gs g.2)).1 (gmM g.2.1)) (gmO g.2.1)) (gk g.2)) hs.2.2 hk (by omega)]
      rfl
theorem sp_se_t : SpecOk Tryz.prog 58 (sp_se 67) := fspecY (X_se_ok sp_ro_t sp_fl_t l_s1_t l_s2_t l_s3_t) 6 FE_u_nx _ _ _ _ (fun g => T_se 67 g.2) (fun g => by kernel_rfl) fun _ _ _ h => se_run h
theorem sp_se_s : SpecOk Tryz.prog 58 (sp_se 53) := fspecY (X_se_ok sp_ro_s sp_fl_s l_s1_s l_s2_s l_s3_s) 6 FE_u_nx _ _ _ _ (fun g => T_se 53 g.2) (fun g => by kernel_rfl) fun _ _ _ h => se_run h
theorem sp_se_r : SpecOk Tryz.prog 58 (sp_se 144) := fspecY (X_se_ok sp_ro_r sp_fl_r l_s1_r l_s2_r l_s3_r) 6 FE_u_nx _ _ _ _ (fun g => T_se 144 g.2) (fun g => by kernel_rfl) fun _ _ _ h => se_run h
end St
end V
end Go.Proofs.YtkiaifmbbnnliaaGreat
namespace Go.Proofs.YtkiaifmbbnnliaaGreat
open Go.RowKit
namespace V
namespace St
noncomputable def lb_b1 : Code := (loopsOf (bodyOf Tryz.f124)).getD 0 .skip
noncomputable def lb_b2 : Code := (loopsOf (bodyOf Tryz.f124)).getD 1 .skip
abbrev kBb : List SK := [.d cI, .d cI]
def L_b2 (f : Nat) : Lay := { keys := [0, 2, 3, 13, 14, 15, 24, 25, 26], ks := [.p 0 0 0 0, .d cI, .p 2002 0 0 0, .d (.sl cBall), .d cI, .d cI, .d (.sl cDisc), .d cI, .d cI], bs := [(0, 99, kGm f), (1, 43, [.o 57 cKn]), (2002, 117, kBb)], n := 81, nx := 3000, marks := [] }
def R_b2 (f : Nat) : Lay := { keys := [0, 13, 14, 15], ks := [.p 0 0 0 0, .d (.sl cBall), .d cI, .d cI], bs := bsG f, n := 81, nx := 3000, marks := [] }
def P_bp : Lay := { keys := [], ks := [], bs := [], n := 81, nx := 4000, marks := [] }
def E_b2 (f : Nat) : XE → Lay := fun e => match e with | .panic _ => P_bp | _ => R_b2 f
def L_b1 (f : Nat) : Lay := { keys := [0, 13, 14, 15], ks := [.p 0 0 0 0, .d (.sl cBall), .d cI, .d cI], bs := bsG f, n := 81, nx := 2000, marks := [] }
def R_b1 (f : Nat) : Lay := { keys := [], ks := [], bs := bsG f, n := 81, nx := 2000, marks := [] }
def E_b1 (f : Nat) : XE → Lay := fun e => match e with | .panic _ => P_bp | _ => R_b1 f
theorem E_b2_nx {f : Nat} (e : XE) : (L_b2 f).nx ≤ (E_b2 f e).nx := by cases e <;> first | exact Nat.le_refl _ | exact (by decide : (3000 : Nat) ≤ 4000)
theorem E_b1_nx {f : Nat} (e : XE) : (L_b1 f).nx ≤ (E_b1 f e).nx := by cases e <;> first | exact Nat.le_refl _ | exact (by decide : (2000 : Nat) ≤ 4000)
abbrev Dss : Type := List (TCT cDisc)
abbrev MK : Type := Mots × Kns
def getD4 (ps : Dss) (i : Nat) : TCT cDisc := getA ps i (dflt cDisc)
def bmV (b : TCT cBall) (m : TCT cMot) (d : TCT cDisc) (c : TCT cBnc) : TCTs [cMot, cI] := BumpR (bm b m) d.1.1 d.1.2.1 d.2.1 c.1 c.2.1
structure Cb where
  i : Int
  b : TCT cBall
  bl : List (TCT cBall)
  n1 : Int
  i1 : Int
  ps : Dss
def gmb (m : GM) (k : Kns) (b : TCT cBall) : GM × SKTs [.o 0 cKn] × SKTs kBb × Unit := (m, (k, ()), b, ())
def hd_b2 (f : Nat) (x : GB) (c : Cb) (n k : Int) (s : MK) : (L_b2 f).T := (((), c.i, (), c.bl, c.n1, c.i1, c.ps, n, k, ()), gmb (gmU x.1 s.1 (gmO x.1)) s.2 c.b)
def ex_b2 (f : Nat) (x : GB) (c : Cb) (s : MK) : Left' (E_b2 f) := ⟨.exit 2, (((), c.bl, c.n1, c.i1, ()), gb (gmU x.1 s.1 (gmO x.1)) s.2)⟩
def pn_b2 (f : Nat) (e : Int) : Left' (E_b2 f) := ⟨.panic (.ifc 44 (.int .i64 e)), ((), ())⟩
abbrev TB2 (f : Nat) := Tree ((L_b2 f).T ⊕ Left' (E_b2 f))
def row_b2 (f : Nat) (x : GB) (c : Cb) (n k : Int) (s : MK) (r : TCTs [cMot, cI]) : TB2 f :=
  bif r.2.1 == 0 then inO s.1.length c.i (appK s.2 (kn (gmT x.1) (gmS x.1) 1 c.i k) fun ks => .leaf (.inl (hd_b2 f x c n (W64 (k + 1)) (setA s.1 (Int.toNat c.i) r.1, ks))))
  else bif r.2.1 == 4 then .leaf (.inr (pn_b2 f r.2.1)) else .leaf (.inl (hd_b2 f x c n (W64 (k + 1)) s))
def st_b2' (f : Nat) (x : GB) (c : Cb) (n k : Int) (s : MK) : TB2 f := bif decide (k < n) then inN c.ps.length k (bif inGM s.1 (gmO x.1) c.i then
  bif !rollB s.1 (gmO x.1) (Int.toNat c.i) then .leaf (.inr (ex_b2 f x c s)) else bif flyB (gmW x.1) (gmF x.1) c.i then .leaf (.inr (ex_b2 f x c s)) else
  inO s.1.length c.i (row_b2 f x c n k s (bmV c.b (getM s.1 (Int.toNat c.i)) (getD4 c.ps (Int.toNat k)) (gmC x.1))) else .fail) else .leaf (.inr (ex_b2 f x c s))
def cb (f : Nat) (g : (L_b2 f).T) : Cb := ⟨g.1.2.1, g.2.2.2.1, g.1.2.2.2.1, g.1.2.2.2.2.1, g.1.2.2.2.2.2.1, g.1.2.2.2.2.2.2.1⟩
def st_b2 (f : Nat) (g : (L_b2 f).T) : TB2 f := st_b2' f (gb g.2.1 g.2.2.1.1) (cb f g) g.1.2.2.2.2.2.2.2.1 g.1.2.2.2.2.2.2.2.2.1 (gmM g.2.1, g.2.2.1.1)
def fu_b2 (f : Nat) (g : (L_b2 f).T) : Nat := Int.toNat g.1.2.2.2.2.2.2.2.1 + 1
def sm_b2 (f : Nat) : St → Tree (XE × St) := loopSum (L_b2 f) (E_b2 f) (finP 44 .i64 [.exit 2] (st_b2 f) (fu_b2 f))
def bpE (b : TCT cBall) (c : TCT cBnc) (ps : Dss) (os : List Bool) (w fl t st : Int) (i : Nat) (k : Nat) (s : MK) : MK ⊕ (MK ⊕ Int) :=
  bif !rollB s.1 os i || flyB w fl i then .inr (.inl s) else
  bif (bmV b (getM s.1 i) (getD4 ps k) c).2.1 == 0 then .inl (setA s.1 i (bmV b (getM s.1 i) (getD4 ps k) c).1, s.2 ++ [kn t st 1 i k]) else
  bif (bmV b (getM s.1 i) (getD4 ps k) c).2.1 == 4 then .inr (.inr (bmV b (getM s.1 i) (getD4 ps k) c).2.1) else .inl s
def colE : MK ⊕ (MK ⊕ Int) → MK ⊕ Int
  | .inl s => .inl s
  | .inr x => x
def res_b2 (f : Nat) (x : GB) (c : Cb) (r : MK ⊕ (MK ⊕ Int)) : Left' (E_b2 f) := match colE r with
  | .inl s => ex_b2 f x c s
  | .inr e => pn_b2 f e
structure InvK (n k : Nat) (i : Nat) (s : MK) : Prop where
  m : s.1.length = n
  k : s.2.length ≤ k + i
theorem inv_b2 {b : TCT cBall} {c : TCT cBnc} {ps : Dss} {os : List Bool} {w fl t st : Int} {i n k0 m : Nat} (k : Nat) (s s' : MK) (_ : k < m) (hi : InvK n k0 k s) (h : bpE b c ps os w fl t st i k s = .inl s') : InvK n k0 (k + 1) s' := by
  unfold bpE at h
  have hk := hi.k
  cases h1 : !rollB s.1 os i || flyB w fl i with
  | true => rw [h1] at h; cases h
  | false =>
    rw [h1] at h
    cases h2 : (bmV b (getM s.1 i) (getD4 ps k) c).2.1 == 0 with
    | true => rw [h2] at h; cases h; exact ⟨by rw [setA_len]; exact hi.m, by simp; omega⟩
    | false =>
      rw [h2] at h
      cases h3 : (bmV b (getM s.1 i) (getD4 ps k) c).2.1 == 4 with
      | true => rw [h3] at h; cases h
      | false => rw [h3] at h; cases h; exact ⟨hi.m, by omega⟩
theorem it_b2 {f : Nat} {x : GB} {c : Cb} {i n k0 : Nat} {s : MK} (hci : c.i = (i : Int)) (hi : i < n) (hos : (gmO x.1).length = n) (hs : InvK n k0 0 s) (hk0 : k0 ≤ 990000) (hps : c.ps.length ≤ 1000) :
    iter (st_b2 f) (c.ps.length + 1) (hd_b2 f x c c.ps.length 0 s) = some (res_b2 f x c (foldN (bpE c.b (gmC x.1) c.ps (gmO x.1) (gmW x.1) (gmF x.1) (gmT x.1) (gmS x.1) i) 0 c.ps.length s)) := by
  have hn : (c.ps.length : Int) ≤ maxK .i64 := by show (c.ps.length : Int) ≤ 9223372036854775807; omega
  refine iter_n c.ps.length (fun k s => hd_b2 f x c c.ps.length k s) (bpE c.b (gmC x.1) c.ps (gmO x.1) (gmW x.1) (gmF x.1) (gmT x.1) (gmS x.1) i) (res_b2 f x c) (InvK n k0) (fun k s hk hl => ?_) inv_b2 (fun s hl => ?_) c.ps.length 0 s (by omega) hs
  · show (st_b2' f (gb (gmU x.1 s.1 (gmO x.1)) s.2) c c.ps.length k s).run = _
    have h1 := hl.m
    have h2 := hl.k
    unfold st_b2'
    show Tree.run (bif decide ((k : Int) < (c.ps.length : Int)) then inN c.ps.length k (bif inGM s.1 (gmO x.1) c.i then
      bif !rollB s.1 (gmO x.1) (Int.toNat c.i) then .leaf (.inr (ex_b2 f x c s)) else bif flyB (gmW x.1) (gmF x.1) c.i then .leaf (.inr (ex_b2 f x c s)) else
      inO s.1.length c.i (row_b2 f x c c.ps.length k s (bmV c.b (getM s.1 (Int.toNat c.i)) (getD4 c.ps k) (gmC x.1))) else .fail) else .leaf (.inr (ex_b2 f x c s)) : TB2 f) = _
    rw [hci, decide_eq_true (show (k : Int) < (c.ps.length : Int) by omega), inN_ok (by omega), inGM_ok hi h1 hos, inO_ok (by omega), show Int.toNat (i : Int) = i from rfl]
    unfold row_b2 bpE appK
    rw [hci, inO_ok (by omega), app_ok (by simp; omega) (by decide), W64_succ hk hn, show Int.toNat (i : Int) = i from rfl]
    cases rollB s.1 (gmO x.1) i with
    | false => rfl
    | true =>
      cases flyB (gmW x.1) (gmF x.1) i with
      | true => rfl
      | false =>
        simp only [Bool.not_true, Bool.or_self, cond_true, cond_false]
        cases (bmV c.b (getM s.1 i) (getD4 c.ps k) (gmC x.1)).2.1 == 0 with
        | true => rfl
        | false =>
          simp only [cond_false]
          cases (bmV c.b (getM s.1 i) (getD4 c.ps k) (gmC x.1)).2.1 == 4 <;> rfl
  · show (st_b2' f (gb (gmU x.1 s.1 (gmO x.1)) s.2) c c.ps.length c.ps.length s).run = _
    unfold st_b2'
    rw [decide_eq_false (show ¬ (c.ps.length : Int) < (c.ps.length : Int) by omega)]
    rfl
def hd_b1 (f : Nat) (x : GB) (bl : List (TCT cBall)) (n i : Int) (s : MK) : (L_b1 f).T := (((), bl, n, i, ()), gb (gmU x.1 s.1 (gmO x.1)) s.2)
def ex_b1 (f : Nat) (x : GB) (s : MK) : Left' (E_b1 f) := ⟨.exit 0, ((), gb (gmU x.1 s.1 (gmO x.1)) s.2)⟩
def pn_b1 (f : Nat) (e : Int) : Left' (E_b1 f) := ⟨.panic (.ifc 44 (.int .i64 e)), ((), ())⟩
abbrev TB1 (f : Nat) := Tree ((L_b1 f).T ⊕ Left' (E_b1 f))
def nx_b1 (f : Nat) (r : (R_b2 f).T) : (L_b1 f).T := (((), r.1.2.1, r.1.2.2.1, W64 (r.1.2.2.2.1 + 1), ()), r.2)
def ct_b1 (f : Nat) (y : Option (Left' (E_b2 f))) : TB1 f := bif isP 44 .i64 y then .leaf (.inr (pn_b1 f (panO 44 .i64 y).1)) else bif isE (.exit 2) y then .leaf (.inl (nx_b1 f (valE (.exit 2) y))) else .fail
def y_b2 (f : Nat) (x : GB) (c : Cb) : Option (Left' (E_b2 f)) := iter (st_b2 f) (c.ps.length + 1) (hd_b2 f x c c.ps.length 0 (gmM x.1, gk x))
def cb1 (x : GB) (bl : List (TCT cBall)) (n i : Int) : Cb := ⟨i, getB bl (Int.toNat i), bl, n, i, gmP x.1⟩
def st_b1' (f : Nat) (x : GB) (bl : List (TCT cBall)) (n i : Int) : TB1 f := bif decide (i < n) then inN bl.length i (ct_b1 f (y_b2 f x (cb1 x bl n i))) else .leaf (.inr (ex_b1 f x (gmM x.1, gk x)))
def st_b1 (f : Nat) (g : (L_b1 f).T) : TB1 f := st_b1' f g.2 g.1.2.1 g.1.2.2.1 g.1.2.2.2.1
def fu_b1 (f : Nat) (g : (L_b1 f).T) : Nat := Int.toNat g.1.2.2.1 + 1
def sm_b1 (f : Nat) : St → Tree (XE × St) := loopSum (L_b1 f) (E_b1 f) (finP 44 .i64 [.exit 0] (st_b1 f) (fu_b1 f))
def Lt_b1 (f : Nat) : LoopT := fun k => bif Nat.beq k 4 then some (sm_b2 f) else none
theorem loops_b1 : loopsOf lb_b1 = [lb_b2] := by kernel_rfl
theorem key_b2 : keyOf lb_b2 = 4 := by kernel_rfl
theorem Lt_b1_ok {f : Nat} (h : LoopOk Tryz.prog 124 lb_b2 (sm_b2 f)) : ∀ d ∈ loopsOf lb_b1, ∀ g, Lt_b1 f (keyOf d) = some g → LoopOk Tryz.prog 124 d g := fun d hd g hg => by
  rw [loops_b1, List.mem_singleton] at hd
  subst hd
  rw [key_b2] at hg
  cases hg
  exact h
theorem l_b2_t : LoopOk Tryz.prog 124 lb_b2 (sm_b2 67) := loopOk_p0 (X_g3_ok is_Tick1 sp_ro_t sp_fl_t) 7 _ _ _ E_b2_nx _ _ _ _ (fu_b2 67) (fun g => by kernel_rfl)
theorem l_b2_r : LoopOk Tryz.prog 124 lb_b2 (sm_b2 144) := loopOk_p0 (X_g3_ok is_run1 sp_ro_r sp_fl_r) 7 _ _ _ E_b2_nx _ _ _ _ (fu_b2 144) (fun g => by kernel_rfl)
theorem l_b1_t : LoopOk Tryz.prog 124 lb_b1 (sm_b1 67) := loopOk_p (X_g3_ok is_Tick1 sp_ro_t sp_fl_t) 7 _ (Lt_b1 67) (Lt_b1_ok l_b2_t) _ _ E_b1_nx _ _ _ _ (fu_b1 67) (fun g => by kernel_rfl)
theorem l_b1_r : LoopOk Tryz.prog 124 lb_b1 (sm_b1 144) := loopOk_p (X_g3_ok is_run1 sp_ro_r sp_fl_r) 7 _ (Lt_b1 144) (Lt_b1_ok l_b2_r) _ _ E_b1_nx _ _ _ _ (fu_b1 144) (fun g => by kernel_rfl)
def boE (bl : List (TCT cBall)) (c : TCT cBnc) (ps : Dss) (os : List Bool) (w fl t st : Int) (i : Nat) (s : MK) : MK ⊕ Int := colE (foldN (bpE (getB bl i) c ps os w fl t st i) 0 ps.length s)
def res_b1 (f : Nat) (x : GB) : MK ⊕ Int → Left' (E_b1 f)
  | .inl s => ex_b1 f x s
  | .inr e => pn_b1 f e
theorem bp_inv {b : TCT cBall} {c : TCT cBnc} {ps : Dss} {os : List Bool} {w fl t st : Int} {i n k0 m : Nat} : ∀ (j k : Nat) (s s' : MK), k + j = m → InvK n k0 k s → colE (foldN (bpE b c ps os w fl t st i) k j s) = .inl s' → InvK n k0 m s'
  | 0, k, s, s', hj, hi, h => by
    have e : k = m := by omega
    subst e
    cases h
    exact hi
  | j + 1, k, s, s', hj, hi, h => by
    unfold foldN at h
    cases hf : bpE b c ps os w fl t st i k s with
    | inl t1 => rw [hf] at h; exact bp_inv j (k + 1) t1 s' (by omega) (inv_b2 (m := m) k s t1 (by omega) hi hf) h
    | inr y =>
      rw [hf] at h
      unfold bpE at hf
      have hk := hi.k
      cases h1 : !rollB s.1 os i || flyB w fl i with
      | true =>
        rw [h1] at hf
        cases hf
        cases h
        exact ⟨hi.m, by omega⟩
      | false =>
        rw [h1] at hf
        cases h2 : (bmV b (getM s.1 i) (getD4 ps k) c).2.1 == 0 with
        | true => rw [h2] at hf; cases hf
        | false =>
          rw [h2] at hf
          cases h3 : (bmV b (getM s.1 i) (getD4 ps k) c).2.1 == 4 with
          | true => rw [h3] at hf; cases hf; cases h
          | false => rw [h3] at hf; cases hf
structure InvO (n k P : Nat) (i : Nat) (s : MK) : Prop where
  m : s.1.length = n
  k : s.2.length ≤ k + i * P
theorem inv_b1 {bl : List (TCT cBall)} {c : TCT cBnc} {ps : Dss} {os : List Bool} {w fl t st : Int} {n k0 m : Nat} (i : Nat) (s s' : MK) (_ : i < m) (hi : InvO n k0 ps.length i s) (h : boE bl c ps os w fl t st i s = .inl s') : InvO n k0 ps.length (i + 1) s' := by
  have a := bp_inv (n := n) (k0 := k0 + i * ps.length) (m := ps.length) ps.length 0 s s' (by omega) ⟨hi.m, by have := hi.k; omega⟩ h
  have e : (i + 1) * ps.length = i * ps.length + ps.length := Nat.succ_mul i ps.length
  exact ⟨a.m, by have := a.k; omega⟩
theorem it_b1 {f : Nat} {x : GB} {s : MK} (hx : OkGM x.1) (hm : s.1.length = nBx x.1) (hk : s.2.length ≤ 900000) (hps : (gmP x.1).length ≤ 1000) :
    iter (st_b1 f) (nBx x.1 + 1) (hd_b1 f x (gmB x.1) (nBx x.1) 0 s) = some (res_b1 f x (foldN (boE (gmB x.1) (gmC x.1) (gmP x.1) (gmO x.1) (gmW x.1) (gmF x.1) (gmT x.1) (gmS x.1)) 0 (nBx x.1) s)) := by
  have hn8 := hx.n
  have hn : (nBx x.1 : Int) ≤ maxK .i64 := by show (nBx x.1 : Int) ≤ 9223372036854775807; omega
  refine iter_n (nBx x.1) (fun i s => hd_b1 f x (gmB x.1) (nBx x.1) i s) (boE (gmB x.1) (gmC x.1) (gmP x.1) (gmO x.1) (gmW x.1) (gmF x.1) (gmT x.1) (gmS x.1)) (res_b1 f x) (InvO (nBx x.1) s.2.length (gmP x.1).length) (fun i s1 hi hl => ?_) inv_b1 (fun s hl => ?_) (nBx x.1) 0 s (by omega) ⟨hm, by omega⟩
  · show (st_b1' f (gb (gmU x.1 s1.1 (gmO x.1)) s1.2) (gmB x.1) (nBx x.1) i).run = _
    have h2 := hl.k
    have h3 : i * (gmP x.1).length ≤ 8 * 1000 := Nat.mul_le_mul (by omega) hps
    have hy : y_b2 f (gb (gmU x.1 s1.1 (gmO x.1)) s1.2) (cb1 (gb (gmU x.1 s1.1 (gmO x.1)) s1.2) (gmB x.1) (nBx x.1) i) = some (res_b2 f (gb (gmU x.1 s1.1 (gmO x.1)) s1.2) (cb1 (gb (gmU x.1 s1.1 (gmO x.1)) s1.2) (gmB x.1) (nBx x.1) i) (foldN (bpE (getB (gmB x.1) i) (gmC x.1) (gmP x.1) (gmO x.1) (gmW x.1) (gmF x.1) (gmT x.1) (gmS x.1) i) 0 (gmP x.1).length s1)) :=
      it_b2 (f := f) (x := gb (gmU x.1 s1.1 (gmO x.1)) s1.2) (c := cb1 (gb (gmU x.1 s1.1 (gmO x.1)) s1.2) (gmB x.1) (nBx x.1) i) (i := i) (n := nBx x.1) (k0 := s.2.length + i * (gmP x.1).length) (s := s1) rfl hi hx.os ⟨hl.m, by omega⟩ (by omega) hps
    unfold st_b1'
    rw [decide_eq_true (show (i : Int) < (nBx x.1 : Int) by omega), inN_ok (n := (gmB x.1).length) (by show 0 ≤ (i : Int) ∧ (i : Int) < (nBx x.1 : Int); omega), hy]
    unfold boE res_b2
    cases colE (foldN (bpE (getB (gmB x.1) i) (gmC x.1) (gmP x.1) (gmO x.1) (gmW x.1) (gmF x.1) (gmT x.1) (gmS x.1) i) 0 (gmP x.1).length s1) with
    | inl s2 =>
      show (Tree.leaf (.inl (((), gmB x.1, (nBx x.1 : Int), W64 ((i : Int) + 1), ()), gb (gmU x.1 s2.1 (gmO x.1)) s2.2)) : TB1 f).run = _
      rw [W64_succ hi hn]
      rfl
    | inr e =>
      have h1 : isP 44 .i64 (some (pn_b2 f e)) = true := isP_some
      have h2 : panO 44 .i64 (some (pn_b2 f e)) = ⟨e, ((), ())⟩ := panO_some
      show (ct_b1 f (some (pn_b2 f e))).run = _
      unfold ct_b1
      rw [h1, h2]
      rfl
  · show (st_b1' f (gb (gmU x.1 s.1 (gmO x.1)) s.2) (gmB x.1) (nBx x.1) (nBx x.1)).run = _
    unfold st_b1'
    rw [decide_eq_false (show ¬ (nBx x.1 : Int) < (nBx x.1 : Int) by omega)]
    rfl
end St
end V
end Go.Proofs.YtkiaifmbbnnliaaGreat
namespace Go.Proofs.YtkiaifmbbnnliaaGreat
open Go.RowKit
namespace V
namespace St
noncomputable def X_bp (f : Nat) : Ctx := ctxS Tryz.prog plGm [(124, Tryz.f124)] [((124, 1), sm_b1 f), ((124, 4), sm_b2 f)] (spG f)
theorem X_bp_ok {f : Nat} (h1 : SpecOk Tryz.prog 159 (sp_ro f)) (h2 : SpecOk Tryz.prog 113 (sp_fl f)) (l1 : LoopOk Tryz.prog 124 lb_b1 (sm_b1 f)) (l2 : LoopOk Tryz.prog 124 lb_b2 (sm_b2 f)) : CtxOk (X_bp f) :=
  ctxS_ok mixed puGm (fns_cons is_gbump fns_nil) (loops_cons (loops_of (ds := [lb_b1, lb_b2]) (by kernel_rfl) ⟨one_key (k := 1) (by kernel_rfl) rfl l1, one_key (k := 4) (by kernel_rfl) rfl l2, trivial⟩) loops_nil) (two_spec is_rolls.plain h1 is_flies.plain h2)
def y_b1 (f : Nat) (x : GB) : Option (Left' (E_b1 f)) := iter (st_b1 f) (nBx x.1 + 1) (hd_b1 f x (gmB x.1) (nBx x.1) 0 (gmM x.1, gk x))
def T_bp (f : Nat) (x : GB) : TU f := bif isP 44 .i64 (y_b1 f x) then .leaf ⟨false, pnU f (panO 44 .i64 (y_b1 f x)).1⟩ else bif isE (.exit 0) (y_b1 f x) then .leaf ⟨true, ((), (valE (.exit 0) (y_b1 f x)).2)⟩ else .fail
def buF (bl : List (TCT cBall)) (c : TCT cBnc) (ps : Dss) (t st w fl : Int) (n : Nat) (s : S2) : MK ⊕ Int := foldN (boE bl c ps s.2.1 w fl t st) 0 n (s.1, s.2.2)
def okGP (x : GB) : Bool := okGB x && decide ((gmP x.1).length ≤ 1000)
theorem okGP_iff {x : GB} (h : okGP x = true) : OkGM x.1 ∧ (gk x).length ≤ 900000 ∧ (gmP x.1).length ≤ 1000 := by
  unfold okGP at h
  simp only [Bool.and_eq_true, decide_eq_true_eq] at h
  have a := okGB_iff h.1
  exact ⟨a.1, a.2, h.2⟩
def Y_bp (x : GB) : Option (MK ⊕ Int) := bif okGP x then some (buF (gmB x.1) (gmC x.1) (gmP x.1) (gmT x.1) (gmS x.1) (gmW x.1) (gmF x.1) (nBx x.1) (gs x)) else none
abbrev sp_bp (f : Nat) : Heap → Nat → List AV → Tree (Out × Heap × Nat) := fspec probeG (FL_g f) (FE_u f) (finY (fun g : (FL_g f).T => Y_bp g.2) (fun g => mk_mk f g.2) (pnU f) ([], []))
theorem bp_run {f : Nat} {g : (FL_g f).T} {z : MK ⊕ Int} (h : Y_bp g.2 = some z) : (T_bp f g.2).run = some (toYf (L := FL_g f) (E := FE_u f) (fun g => mk_mk f g.2) (pnU f) g z) := by
  unfold Y_bp at h
  cases ho : okGP g.2 with
  | false => rw [ho] at h; cases h
  | true =>
    rw [ho] at h
    cases h
    obtain ⟨hg, hk, hp⟩ := okGP_iff ho
    have hy : y_b1 f g.2 = some (res_b1 f g.2 (buF (gmB g.2.1) (gmC g.2.1) (gmP g.2.1) (gmT g.2.1) (gmS g.2.1) (gmW g.2.1) (gmF g.2.1) (nBx g.2.1) (gs g.2))) := it_b1 hg hg.ms hk hp
    unfold T_bp
    rw [hy]
    cases buF (gmB g.2.1) (gmC g.2.1) (gmP g.2.1) (gmT g.2.1) (gmS g.2.1) (gmW g.2.1) (gmF g.2.1) (nBx g.2.1) (gs g.2) with
    | inl s => rfl
    | inr e =>
      have h1 : isP 44 .i64 (some (res_b1 f g.2 (.inr e))) = true := isP_some
      have h2 : panO 44 .i64 (some (res_b1 f g.2 (.inr e))) = ⟨e, ((), ())⟩ := panO_some
      rw [h1, h2]
      rfl
theorem sp_bp_t : SpecOk Tryz.prog 124 (sp_bp 67) := fspecY (X_bp_ok sp_ro_t sp_fl_t l_b1_t l_b2_t) 6 FE_u_nx _ _ _ _ (fun g => T_bp 67 g.2) (fun g => by kernel_rfl) fun _ _ _ h => bp_run h
theorem sp_bp_r : SpecOk Tryz.prog 124 (sp_bp 144) := fspecY (X_bp_ok sp_ro_r sp_fl_r l_b1_r l_b2_r) 6 FE_u_nx _ _ _ _ (fun g => T_bp 144 g.2) (fun g => by kernel_rfl) fun _ _ _ h => bp_run h
end St
end V
end Go.Proofs.YtkiaifmbbnnliaaGreat
namespace Go.Proofs.YtkiaifmbbnnliaaGreat
open Go.RowKit
namespace V
def thY {A β : Type} (y : Option (A ⊕ Int)) (d : A) (pn : Int → Tree β) (k : A → Tree β) : Tree β := bif isL y then k (gL d y) else bif isR y then pn (gR 0 y) else .fail
theorem thY_l {A β : Type} {y : Option (A ⊕ Int)} {d a : A} {pn : Int → Tree β} {k : A → Tree β} (h : y = some (.inl a)) : thY y d pn k = k a := by rw [h]; rfl
theorem thY_r {A β : Type} {y : Option (A ⊕ Int)} {d : A} {e : Int} {pn : Int → Tree β} {k : A → Tree β} (h : y = some (.inr e)) : thY y d pn k = pn e := by rw [h]; rfl
namespace St
noncomputable def lb_tk : Code := (loopsOf (bodyOf Tryz.f68)).getD 0 .skip
def L_tk (f : Nat) : Lay := { keys := [0], ks := [.p 0 0 0 0], bs := bsG f, n := 52, nx := 4000, marks := [] }
def P_tk : Lay := { keys := [], ks := [], bs := [], n := 52, nx := 9000, marks := [] }
def E_tk (f : Nat) : XE → Lay := fun e => match e with | .panic _ => P_tk | _ => L_tk f
theorem E_tk_nx {f : Nat} (e : XE) : (L_tk f).nx ≤ (E_tk f e).nx := by cases e <;> first | exact Nat.le_refl _ | exact (by decide : (4000 : Nat) ≤ 9000)
abbrev YS : Type := GB → Option (Mots ⊕ Int)
abbrev Y2 : Type := GB → Option (S2 ⊕ Int)
abbrev YK : Type := GB → Option (MK ⊕ Int)
abbrev SPf : Type := Heap → Nat → List AV → Tree (Out × Heap × Nat)
def gmUC {β : Type} (m : GM) (ms : Mots) (os : List Bool) (k : GM → β) : β := match m with
  | (a0, a1, a2, a3, a4, a5, a6, a7, a8, a9, a10, a11, a12, a13, a14, _, _, a17, a18, a19, a20, a21, _) => k (a0, a1, a2, a3, a4, a5, a6, a7, a8, a9, a10, a11, a12, a13, a14, ms, os, a17, a18, a19, a20, a21, ())
def gmMC {β : Type} (m : GM) (ms : Mots) (k : GM → β) : β := match m with
  | (a0, a1, a2, a3, a4, a5, a6, a7, a8, a9, a10, a11, a12, a13, a14, _, a16, a17, a18, a19, a20, a21, _) => k (a0, a1, a2, a3, a4, a5, a6, a7, a8, a9, a10, a11, a12, a13, a14, ms, a16, a17, a18, a19, a20, a21, ())
def gmA (m : GM) (ms : Mots) (os : List Bool) (fl tk st : Int) : GM := (m.1, m.2.1, m.2.2.1, m.2.2.2.1, m.2.2.2.2.1, m.2.2.2.2.2.1, m.2.2.2.2.2.2.1, m.2.2.2.2.2.2.2.1, m.2.2.2.2.2.2.2.2.1, m.2.2.2.2.2.2.2.2.2.1, m.2.2.2.2.2.2.2.2.2.2.1, m.2.2.2.2.2.2.2.2.2.2.2.1, m.2.2.2.2.2.2.2.2.2.2.2.2.1, m.2.2.2.2.2.2.2.2.2.2.2.2.2.1, m.2.2.2.2.2.2.2.2.2.2.2.2.2.2.1, ms, os, m.2.2.2.2.2.2.2.2.2.2.2.2.2.2.2.2.2.1, fl, tk, st, m.2.2.2.2.2.2.2.2.2.2.2.2.2.2.2.2.2.2.2.2.2.1, ())
def finYc {L : FLay} {E : Bool → FLay} {A : Type} (Y : L.T → Option (A ⊕ Int)) (mk : L.T → A → ((E true).T → Tree (LeftF E)) → Tree (LeftF E)) (pn : Int → (E false).T) (d : A) (g : L.T) : Tree (LeftF E) :=
  .br (isL (Y g)) (mk g (gL d (Y g)) fun y => .leaf ⟨true, y⟩) (.br (isR (Y g)) (.leaf ⟨false, pn (gR 0 (Y g))⟩) .fail)
def mk2C (f : Nat) (x : GB) (s : S2) (k : (FE_u f true).T → Tree (LeftF (FE_u f))) : Tree (LeftF (FE_u f)) := gmUC x.1 s.1 s.2.1 fun m => k ((), (m, (s.2.2, ()), ()))
def mkMC (f : Nat) (x : GB) (s : MK) (k : (FE_u f true).T → Tree (LeftF (FE_u f))) : Tree (LeftF (FE_u f)) := gmMC x.1 s.1 fun m => k ((), (m, (s.2, ()), ()))
def mkSC (f : Nat) (x : GB) (s : Mots) (k : (FE_u f true).T → Tree (LeftF (FE_u f))) : Tree (LeftF (FE_u f)) := gmMC x.1 s fun m => k ((), (m, (x.2.1.1, ()), ()))
theorem fin2_eq {f : Nat} (Y : Y2) : (finYc (L := FL_g f) (E := FE_u f) (fun g => Y g.2) (fun g => mk2C f g.2) (pnU f) ([], [], [])) = (finY (L := FL_g f) (E := FE_u f) (fun g => Y g.2) (fun g => mk_2 f g.2) (pnU f) ([], [], [])) := rfl
theorem finM_eq {f : Nat} (Y : YK) : (finYc (L := FL_g f) (E := FE_u f) (fun g => Y g.2) (fun g => mkMC f g.2) (pnU f) ([], [])) = (finY (L := FL_g f) (E := FE_u f) (fun g => Y g.2) (fun g => mk_mk f g.2) (pnU f) ([], [])) := rfl
theorem finS_eq {f : Nat} (Y : YS) : (finYc (L := FL_g f) (E := FE_u f) (fun g => Y g.2) (fun g => mkSC f g.2) (pnU f) []) = (finY (L := FL_g f) (E := FE_u f) (fun g => Y g.2) (fun g => mk_slw f g.2) (pnU f) []) := rfl
abbrev spYS (f : Nat) (Y : YS) : SPf := fspec probeG (FL_g f) (FE_u f) (finYc (fun g : (FL_g f).T => Y g.2) (fun g => mkSC f g.2) (pnU f) [])
abbrev spY2 (f : Nat) (Y : Y2) : SPf := fspec probeG (FL_g f) (FE_u f) (finYc (fun g : (FL_g f).T => Y g.2) (fun g => mk2C f g.2) (pnU f) ([], [], []))
abbrev spYK (f : Nat) (Y : YK) : SPf := fspec probeG (FL_g f) (FE_u f) (finYc (fun g : (FL_g f).T => Y g.2) (fun g => mkMC f g.2) (pnU f) ([], []))
structure TY where
  s : YS
  m : Y2
  e : YK
  b : YK
def spT (f : Nat) (Y : TY) : List (Nat × SPf) := [(122, spYS f Y.s), (123, spY2 f Y.m), (58, spYK f Y.e), (124, spYK f Y.b)]
def tyG : TY := ⟨Y_slw, Y_mv, Y_se, Y_bp⟩
theorem spT_ok {f : Nat} (h1 : SpecOk Tryz.prog 122 (sp_slw f)) (h2 : SpecOk Tryz.prog 123 (sp_mv f)) (h3 : SpecOk Tryz.prog 58 (sp_se f)) (h4 : SpecOk Tryz.prog 124 (sp_bp f)) : ∀ p ∈ spT f tyG, Plain Tryz.prog p.1 ∧ SpecOk Tryz.prog p.1 p.2 := fun p hp => by
  unfold spT at hp
  simp only [List.mem_cons, List.not_mem_nil, or_false] at hp
  rcases hp with rfl | rfl | rfl | rfl
  · exact ⟨is_gslow.plain, by rw [tyG, spYS, finS_eq]; exact h1⟩
  · exact ⟨is_gmove.plain, by rw [tyG, spY2, fin2_eq]; exact h2⟩
  · exact ⟨is_gsettle.plain, by rw [tyG, spYK, finM_eq]; exact h3⟩
  · exact ⟨is_gbump.plain, by rw [tyG, spYK, finM_eq]; exact h4⟩
theorem spT_t : ∀ p ∈ spT 67 tyG, Plain Tryz.prog p.1 ∧ SpecOk Tryz.prog p.1 p.2 := spT_ok sp_slw_t sp_mv_t sp_se_t sp_bp_t
theorem spT_r : ∀ p ∈ spT 144 tyG, Plain Tryz.prog p.1 ∧ SpecOk Tryz.prog p.1 p.2 := spT_ok sp_slw_r sp_mv_r sp_se_r sp_bp_r
noncomputable def X_tk (f : Nat) (Y : TY) : Ctx := ctxS Tryz.prog plGm [(57, Tryz.f57)] [] (spT f Y)
theorem X_tk_ok {f : Nat} {Y : TY} (h : ∀ p ∈ spT f Y, Plain Tryz.prog p.1 ∧ SpecOk Tryz.prog p.1 p.2) : CtxOk (X_tk f Y) := ctxS_ok mixed puGm (fns_cons is_must fns_nil) no_loops4 h
def x2 (x : GB) (s : S2) : GB := gb (gmU x.1 s.1 s.2.1) s.2.2
abbrev TTk (f : Nat) := Tree ((L_tk f).T ⊕ Left' (E_tk f))
def pn_tk (f : Nat) (e : Int) : Left' (E_tk f) := ⟨.panic (.ifc 44 (.int .i64 e)), ((), ())⟩
def pT_tk (f : Nat) (e : Int) : TTk f := .leaf (.inr (pn_tk f e))
def z2 : S2 := ([], [], [])
def zM : MK := ([], [])
def xS (x : GB) (i : Int) (s : S2) : GB := (gmA x.1 s.1 s.2.1 (gmF x.1) (gmT x.1) i, (s.2.2, ()), ())
def st_tk' (f : Nat) (Y : TY) (x : GB) (i : Int) (s : S2) : TTk f := bif decide (i ≤ 16) then thY (Y.m (xS x i s)) z2 (pT_tk f) fun s1 => thY (Y.e (xS x i s1)) zM (pT_tk f) fun s2 => thY (Y.b (xS x i (s2.1, s1.2.1, s2.2))) zM (pT_tk f) fun s3 => .leaf (.inl (((), ()), xS x (W64 (i + 1)) (s3.1, s1.2.1, s3.2)))
  else .leaf (.inr ⟨.exit 0, (((), ()), xS x i s)⟩)
def st_tk (f : Nat) (Y : TY) (g : (L_tk f).T) : TTk f := st_tk' f Y g.2 (gmS g.2.1) (gs g.2)
def fu_tk (f : Nat) (_ : (L_tk f).T) : Nat := 17
def sm_tk (f : Nat) (Y : TY) : St → Tree (XE × St) := loopSum (L_tk f) (E_tk f) (finP 44 .i64 [.exit 0] (st_tk f Y) (fu_tk f))
theorem l_tk_t {Y : TY} (h : ∀ p ∈ spT 67 Y, Plain Tryz.prog p.1 ∧ SpecOk Tryz.prog p.1 p.2) : LoopOk Tryz.prog 68 lb_tk (sm_tk 67 Y) := loopOk_p0 (X_tk_ok h) 7 _ _ _ E_tk_nx _ _ _ _ (fu_tk 67) (fun g => by kernel_rfl)
theorem l_tk_r {Y : TY} (h : ∀ p ∈ spT 144 Y, Plain Tryz.prog p.1 ∧ SpecOk Tryz.prog p.1 p.2) : LoopOk Tryz.prog 68 lb_tk (sm_tk 144 Y) := loopOk_p0 (X_tk_ok h) 7 _ _ _ E_tk_nx _ _ _ _ (fu_tk 144) (fun g => by kernel_rfl)
structure CT where
  bl : List (TCT cBall)
  l : TCT cLawn
  c : TCT cBnc
  ps : Dss
  w : Int
  fl : Int
  t : Int
def tkE (k : CT) (i : Nat) (s : S2) : S2 ⊕ Int := match mvF k.bl k.l k.t ((i + 1 : Nat) : Int) k.bl.length s with
  | .inr e => .inr e
  | .inl s1 => match seF k.bl k.c k.t ((i + 1 : Nat) : Int) k.w k.fl k.bl.length s1 with
    | .inr e => .inr e
    | .inl s2 => match buF k.bl k.c k.ps k.t ((i + 1 : Nat) : Int) k.w k.fl k.bl.length (s2.1, s1.2.1, s2.2) with
      | .inr e => .inr e
      | .inl s3 => .inl (s3.1, s1.2.1, s3.2)
theorem mvF_inv {bl : List (TCT cBall)} {l : TCT cLawn} {t st : Int} {n k : Nat} {s s' : S2} (hs : Inv2 n k 0 s) (h : mvF bl l t st n s = .inl s') : Inv2 n (k + n) 0 s' := by
  unfold mvF at h
  cases h1 : foldN (stE bl s.2.1) 0 n s.1 with
  | inr e => rw [h1] at h; cases h
  | inl ms =>
    rw [h1] at h
    change foldN (lvE l t st) 0 n (ms, s.2.1, s.2.2) = .inl s' at h
    have hm : ms.length = n := foldN_inv (n := n) (Inv := fun _ (s : Mots) => s.length = n) inv_m1 n 0 _ _ (by omega) hs.m h1
    have a := foldN_inv (n := n) (Inv := Inv2 n k) inv_m2 n 0 (ms, s.2.1, s.2.2) s' (by omega) ⟨hm, hs.o, hs.k⟩ h
    exact ⟨a.m, a.o, by have := a.k; omega⟩
theorem seF_inv {bl : List (TCT cBall)} {c : TCT cBnc} {t st w fl : Int} {n k : Nat} {s : S2} {s' : MK} (hn : n ≤ 8) (hs : Inv2 n k 0 s) (h : seF bl c t st w fl n s = .inl s') : Inv2 n (k + 64) 0 (s'.1, s.2.1, s'.2) := by
  unfold seF at h
  cases he : (seS bl c w fl n s).2.2.1 != 0 with
  | true => rw [he] at h; cases h
  | false =>
    rw [he] at h
    cases h
    have a := seS_ok (bl := bl) (bc := c) (w := w) (fl := fl) (s := s) hn (bne_eq_false_iff_eq.1 he)
    have hk := hs.k
    refine ⟨?_, hs.o, ?_⟩
    · show (scV _ _ _).length = n
      rw [scV_len]; exact hs.m
    · show (kpV _ _ _ _ _).length ≤ _
      rw [kpV_len]; have := a.2.1; omega
theorem buF_inv {bl : List (TCT cBall)} {c : TCT cBnc} {ps : Dss} {t st w fl : Int} {n k : Nat} {s : S2} {s' : MK} (hs : Inv2 n k 0 s) (h : buF bl c ps t st w fl n s = .inl s') : Inv2 n (k + n * ps.length) 0 (s'.1, s.2.1, s'.2) := by
  unfold buF at h
  have hk := hs.k
  have a := foldN_inv (n := n) (Inv := InvO n s.2.2.length ps.length) inv_b1 n 0 _ _ (by omega) ⟨hs.m, by show s.2.2.length ≤ s.2.2.length + 0 * ps.length; omega⟩ h
  exact ⟨a.m, hs.o, by have := a.k; show s'.2.length ≤ _; omega⟩
theorem tkE_inv {k : CT} {k0 m : Nat} (hn : k.bl.length ≤ 8) (hp : k.ps.length ≤ 1000) (i : Nat) (s s' : S2) (_ : i < m) (hs : Inv2 k.bl.length (k0 + i * 8072) 0 s) (h : tkE k i s = .inl s') : Inv2 k.bl.length (k0 + (i + 1) * 8072) 0 s' := by
  unfold tkE at h
  cases h1 : mvF k.bl k.l k.t ((i + 1 : Nat) : Int) k.bl.length s with
  | inr e => rw [h1] at h; cases h
  | inl s1 =>
    rw [h1] at h
    have a := mvF_inv hs h1
    simp only at h
    cases h2 : seF k.bl k.c k.t ((i + 1 : Nat) : Int) k.w k.fl k.bl.length s1 with
    | inr e => rw [h2] at h; cases h
    | inl s2 =>
      rw [h2] at h
      have b := seF_inv hn a h2
      simp only at h
      cases h3 : buF k.bl k.c k.ps k.t ((i + 1 : Nat) : Int) k.w k.fl k.bl.length (s2.1, s1.2.1, s2.2) with
      | inr e => rw [h3] at h; cases h
      | inl s3 =>
        rw [h3] at h
        cases h
        have c := buF_inv b h3
        have d : k.bl.length * k.ps.length ≤ 8 * 1000 := Nat.mul_le_mul hn hp
        exact ⟨c.m, c.o, by have := c.k; simp only at this ⊢; omega⟩
def ctG (m : GM) : CT := ⟨gmB m, gmL m, gmC m, gmP m, gmW m, gmF m, gmT m⟩
theorem Y_mv_xS {x : GB} {i : Int} {s : S2} {k : Nat} (hsz : (x.1.1.size : Int) ≤ maxK .i64) (hn : nBx x.1 ≤ 8) (hs : Inv2 (nBx x.1) k 0 s) (hk : k ≤ 900000) : Y_mv (xS x i s) = some (mvF (gmB x.1) (gmL x.1) (gmT x.1) i (nBx x.1) s) := by
  have h : okGB (xS x i s) = true := by
    have := hs.k
    unfold okGB
    rw [Bool.and_eq_true, decide_eq_true_eq]
    exact ⟨okGM_iff.2 ⟨hsz, hs.m, hs.o, hn⟩, by show s.2.2.length ≤ 900000; omega⟩
  unfold Y_mv; rw [h]; rfl
theorem Y_se_xS {x : GB} {i : Int} {s : S2} {k : Nat} (hsz : (x.1.1.size : Int) ≤ maxK .i64) (hn : nBx x.1 ≤ 8) (hs : Inv2 (nBx x.1) k 0 s) (hk : k ≤ 900000) : Y_se (xS x i s) = some (seF (gmB x.1) (gmC x.1) (gmT x.1) i (gmW x.1) (gmF x.1) (nBx x.1) s) := by
  have h : okGB (xS x i s) = true := by
    have := hs.k
    unfold okGB
    rw [Bool.and_eq_true, decide_eq_true_eq]
    exact ⟨okGM_iff.2 ⟨hsz, hs.m, hs.o, hn⟩, by show s.2.2.length ≤ 900000; omega⟩
  unfold Y_se; rw [h]; rfl
theorem Y_bp_xS {x : GB} {i : Int} {s : S2} {k : Nat} (hsz : (x.1.1.size : Int) ≤ maxK .i64) (hn : nBx x.1 ≤ 8) (hp : (gmP x.1).length ≤ 1000) (hs : Inv2 (nBx x.1) k 0 s) (hk : k ≤ 900000) : Y_bp (xS x i s) = some (buF (gmB x.1) (gmC x.1) (gmP x.1) (gmT x.1) i (gmW x.1) (gmF x.1) (nBx x.1) s) := by
  have h : okGP (xS x i s) = true := by
    have := hs.k
    unfold okGP okGB
    rw [Bool.and_eq_true, Bool.and_eq_true, decide_eq_true_eq, decide_eq_true_eq]
    exact ⟨⟨okGM_iff.2 ⟨hsz, hs.m, hs.o, hn⟩, by show s.2.2.length ≤ 900000; omega⟩, hp⟩
  unfold Y_bp; rw [h]; rfl
def hd_tk (f : Nat) (x : GB) (i : Nat) (s : S2) : (L_tk f).T := (((), ()), xS x ((i + 1 : Nat) : Int) s)
def ex_tk (f : Nat) (x : GB) (s : S2) : Left' (E_tk f) := ⟨.exit 0, (((), ()), xS x 17 s)⟩
def res_tk (f : Nat) (x : GB) : S2 ⊕ Int → Left' (E_tk f)
  | .inl s => ex_tk f x s
  | .inr e => pn_tk f e
theorem xS_xS (x : GB) (i j : Int) (s t : S2) : xS (xS x i s) j t = xS x j t := by
  unfold xS gmA
  rfl
theorem st_tk_hd {f : Nat} {x : GB} {i : Nat} {s : S2} : st_tk f tyG (hd_tk f x i s) = st_tk' f tyG x ((i + 1 : Nat) : Int) s := by
  show st_tk' f tyG (xS x ((i + 1 : Nat) : Int) s) ((i + 1 : Nat) : Int) s = _
  unfold st_tk'
  simp only [xS_xS]
theorem it_tk {f : Nat} {x : GB} {s : S2} {k0 : Nat} (hsz : (x.1.1.size : Int) ≤ maxK .i64) (hn : nBx x.1 ≤ 8) (hp : (gmP x.1).length ≤ 1000) (hs : Inv2 (nBx x.1) k0 0 s) (hk0 : k0 ≤ 700000) :
    iter (st_tk f tyG) 17 (hd_tk f x 0 s) = some (res_tk f x (foldN (tkE (ctG x.1)) 0 16 s)) := by
  refine iter_n 16 (fun i s => hd_tk f x i s) (tkE (ctG x.1)) (res_tk f x) (fun i s => Inv2 (nBx x.1) (k0 + i * 8072) 0 s) (fun i s hi hl => ?_) (fun i s s' hi hl h => tkE_inv (k := ctG x.1) (k0 := k0) (m := 16) hn hp i s s' hi hl h) (fun s hl => ?_) 16 0 s (by omega) ⟨hs.m, hs.o, by have := hs.k; omega⟩
  · rw [st_tk_hd]
    have e1 := Y_mv_xS (i := ((i + 1 : Nat) : Int)) hsz hn (s := s) hl (by omega)
    unfold st_tk'
    rw [decide_eq_true (show ((i + 1 : Nat) : Int) ≤ 16 by omega), cond_true]
    show (thY (Y_mv (xS x ((i + 1 : Nat) : Int) s)) z2 (pT_tk f) fun s1 => thY (Y_se (xS x ((i + 1 : Nat) : Int) s1)) zM (pT_tk f) fun s2 => thY (Y_bp (xS x ((i + 1 : Nat) : Int) (s2.1, s1.2.1, s2.2))) zM (pT_tk f) fun s3 =>
      .leaf (.inl (((), ()), xS x (W64 (((i + 1 : Nat) : Int) + 1)) (s3.1, s1.2.1, s3.2)))).run = _
    unfold tkE
    change Y_mv (xS x ((i + 1 : Nat) : Int) s) = some (mvF (ctG x.1).bl (ctG x.1).l (ctG x.1).t ((i + 1 : Nat) : Int) (ctG x.1).bl.length s) at e1
    cases h1 : mvF (ctG x.1).bl (ctG x.1).l (ctG x.1).t ((i + 1 : Nat) : Int) (ctG x.1).bl.length s with
    | inr e => rw [h1] at e1; rw [thY_r e1]; rfl
    | inl s1 =>
      rw [h1] at e1
      rw [thY_l e1]
      have a : Inv2 (nBx x.1) (k0 + i * 8072 + nBx x.1) 0 s1 := mvF_inv hl h1
      have e2 := Y_se_xS (i := ((i + 1 : Nat) : Int)) hsz hn (s := s1) a (by omega)
      change Y_se (xS x ((i + 1 : Nat) : Int) s1) = some (seF (ctG x.1).bl (ctG x.1).c (ctG x.1).t ((i + 1 : Nat) : Int) (ctG x.1).w (ctG x.1).fl (ctG x.1).bl.length s1) at e2
      simp only
      cases h2 : seF (ctG x.1).bl (ctG x.1).c (ctG x.1).t ((i + 1 : Nat) : Int) (ctG x.1).w (ctG x.1).fl (ctG x.1).bl.length s1 with
      | inr e => rw [h2] at e2; rw [thY_r e2]; rfl
      | inl s2 =>
        rw [h2] at e2
        rw [thY_l e2]
        have b : Inv2 (nBx x.1) (k0 + i * 8072 + nBx x.1 + 64) 0 (s2.1, s1.2.1, s2.2) := seF_inv hn a h2
        have e3 := Y_bp_xS (i := ((i + 1 : Nat) : Int)) hsz hn hp (s := (s2.1, s1.2.1, s2.2)) b (by omega)
        change Y_bp (xS x ((i + 1 : Nat) : Int) (s2.1, s1.2.1, s2.2)) = some (buF (ctG x.1).bl (ctG x.1).c (ctG x.1).ps (ctG x.1).t ((i + 1 : Nat) : Int) (ctG x.1).w (ctG x.1).fl (ctG x.1).bl.length (s2.1, s1.2.1, s2.2)) at e3
        simp only
        cases h3 : buF (ctG x.1).bl (ctG x.1).c (ctG x.1).ps (ctG x.1).t ((i + 1 : Nat) : Int) (ctG x.1).w (ctG x.1).fl (ctG x.1).bl.length (s2.1, s1.2.1, s2.2) with
        | inr e => rw [h3] at e3; rw [thY_r e3]; rfl
        | inl s3 =>
          rw [h3] at e3
          rw [thY_l e3, W64_id (by omega) (by omega)]
          rfl
  · rw [st_tk_hd]
    rfl
end St
end V
end Go.Proofs.YtkiaifmbbnnliaaGreat
namespace Go.Proofs.YtkiaifmbbnnliaaGreat
open Go.RowKit
namespace V
namespace St
noncomputable def X_ti (f : Nat) (Y : TY) : Ctx := ctxS Tryz.prog plGm [(68, Tryz.f68), (57, Tryz.f57)] [((68, 4), sm_tk f Y)] (spT f Y)
theorem X_ti_ok {f : Nat} {Y : TY} (h : ∀ p ∈ spT f Y, Plain Tryz.prog p.1 ∧ SpecOk Tryz.prog p.1 p.2) (hl : LoopOk Tryz.prog 68 lb_tk (sm_tk f Y)) : CtxOk (X_ti f Y) :=
  ctxS_ok mixed puGm (fns_cons is_gtick (fns_cons is_must fns_nil)) (loops_cons (loops_of (ds := [lb_tk]) (by kernel_rfl) ⟨one_key (k := 4) (by kernel_rfl) rfl hl, trivial⟩) (loops_cons (loops_none (by kernel_rfl)) loops_nil)) h
def pU_ti (f : Nat) (e : Int) : TU f := .leaf ⟨false, pnU f e⟩
def fi_ti (v : GB) : GB := (gmA v.1 (gmM v.1) (gmO v.1) (max 0 (W64 (gmF v.1 - 1))) (W64 (gmT v.1 + 1)) (gmS v.1), (gk v, ()), ())
def k_ti (f : Nat) (y : Option (Left' (E_tk f))) : TU f := bif isP 44 .i64 y then pU_ti f (panO 44 .i64 y).1 else bif isE (.exit 0) y then .leaf ⟨true, ((), fi_ti (valE (.exit 0) y).2)⟩ else .fail
def y_tk (f : Nat) (Y : TY) (x : GB) (ms : Mots) : Option (Left' (E_tk f)) := iter (st_tk f Y) 17 (((), ()), xS x 1 (ms, gmO x.1, gk x))
def T_ti (f : Nat) (Y : TY) (x : GB) : TU f := bif gmT x.1 == 4000 then pU_ti f 3 else thY (Y.s x) [] (pU_ti f) fun ms => k_ti f (y_tk f Y x ms)
def slE (l : TCT cLawn) (os : List Bool) (w fl : Int) (i : Nat) (ms : Mots) : Mots ⊕ Int :=
  bif !rollB ms os i || flyB w fl i then .inl ms else bif cellE l (getM ms i).1 != 0 then .inr (cellE l (getM ms i).1) else
  bif (slwV l (getM ms i)).2.1 != 0 then .inr 4 else .inl (setA ms i (slwM l (getM ms i)))
def tkF (k : CT) (s : S2) : S2 ⊕ Int := bif k.t == 4000 then .inr 3 else match foldN (slE k.l s.2.1 k.w k.fl) 0 k.bl.length s.1 with
  | .inr e => .inr e
  | .inl ms => foldN (tkE k) 0 16 (ms, s.2.1, s.2.2)
def okTk (x : GB) : Bool := okGP x && decide ((gk x).length ≤ 700000)
theorem okTk_iff {x : GB} (h : okTk x = true) : OkGM x.1 ∧ (gk x).length ≤ 700000 ∧ (gmP x.1).length ≤ 1000 := by
  unfold okTk at h
  simp only [Bool.and_eq_true, decide_eq_true_eq] at h
  have a := okGP_iff h.1
  exact ⟨a.1, h.2, a.2.2⟩
def Y_ti (x : GB) : Option (S2 ⊕ Int) := bif okTk x then some (tkF (ctG x.1) (gs x)) else none
def xT (x : GB) (s : S2) : GB := (gmA x.1 s.1 s.2.1 (max 0 (W64 (gmF x.1 - 1))) (W64 (gmT x.1 + 1)) 17, (s.2.2, ()), ())
def gmTC {β : Type} (m : GM) (ms : Mots) (os : List Bool) (k : GM → β) : β := match m with
  | (a0, a1, a2, a3, a4, a5, a6, a7, a8, a9, a10, a11, a12, a13, a14, _, _, a17, a18, a19, _, a21, _) => k (a0, a1, a2, a3, a4, a5, a6, a7, a8, a9, a10, a11, a12, a13, a14, ms, os, a17, max 0 (W64 (a18 - 1)), W64 (a19 + 1), 17, a21, ())
def mkTC (f : Nat) (x : GB) (s : S2) (k : (FE_u f true).T → Tree (LeftF (FE_u f))) : Tree (LeftF (FE_u f)) := gmTC x.1 s.1 s.2.1 fun m => k ((), (m, (s.2.2, ()), ()))
def mkT' (f : Nat) (x : GB) (s : S2) : (FE_u f true).T := ((), xT x s)
theorem finT_eq {f : Nat} (Y : Y2) : (finYc (L := FL_g f) (E := FE_u f) (fun g => Y g.2) (fun g => mkTC f g.2) (pnU f) ([], [], [])) = (finY (L := FL_g f) (E := FE_u f) (fun g => Y g.2) (fun g => mkT' f g.2) (pnU f) ([], [], [])) := rfl
abbrev spYT (f : Nat) (Y : Y2) : SPf := fspec probeG (FL_g f) (FE_u f) (finYc (fun g : (FL_g f).T => Y g.2) (fun g => mkTC f g.2) (pnU f) ([], [], []))
theorem ti_run {f : Nat} {g : (FL_g f).T} {z : S2 ⊕ Int} (h : Y_ti g.2 = some z) : (T_ti f tyG g.2).run = some (toYf (L := FL_g f) (E := FE_u f) (fun g => mkT' f g.2) (pnU f) g z) := by
  unfold Y_ti at h
  cases ho : okTk g.2 with
  | false => rw [ho] at h; cases h
  | true =>
    rw [ho] at h
    cases h
    obtain ⟨hg, hk, hp⟩ := okTk_iff ho
    unfold T_ti tkF
    show Tree.run (bif gmT g.2.1 == 4000 then pU_ti f 3 else thY (Y_slw g.2) [] (pU_ti f) fun ms => k_ti f (y_tk f tyG g.2 ms)) = some (toYf (L := FL_g f) (E := FE_u f) (fun g => mkT' f g.2) (pnU f) g (bif gmT g.2.1 == 4000 then .inr 3 else match foldN (slE (gmL g.2.1) (gmO g.2.1) (gmW g.2.1) (gmF g.2.1)) 0 (nBx g.2.1) (gmM g.2.1) with
      | .inr e => .inr e
      | .inl ms => foldN (tkE (ctG g.2.1)) 0 16 (ms, gmO g.2.1, gk g.2)))
    cases gmT g.2.1 == 4000 with
    | true => rfl
    | false =>
      simp only [cond_false]
      have e1 : Y_slw g.2 = some (foldN (slE (gmL g.2.1) (gmO g.2.1) (gmW g.2.1) (gmF g.2.1)) 0 (nBx g.2.1) (gmM g.2.1)) := by
        unfold Y_slw
        rw [okGM_iff.2 hg]
        rfl
      cases h1 : foldN (slE (gmL g.2.1) (gmO g.2.1) (gmW g.2.1) (gmF g.2.1)) 0 (nBx g.2.1) (gmM g.2.1) with
      | inr e => rw [h1] at e1; rw [thY_r e1]; rfl
      | inl ms =>
        rw [h1] at e1
        rw [thY_l e1]
        have hms : ms.length = nBx g.2.1 := foldN_inv (n := nBx g.2.1) (Inv := fun _ (s : Mots) => s.length = nBx g.2.1) (fun i s s' hi hl h => inv_sw (m := g.2.1) i s s' hi hl h) (nBx g.2.1) 0 _ _ (by omega) hg.ms h1
        have hy : y_tk f tyG g.2 ms = some (res_tk f g.2 (foldN (tkE (ctG g.2.1)) 0 16 (ms, gmO g.2.1, gk g.2))) := it_tk (x := g.2) (s := (ms, gmO g.2.1, gk g.2)) (k0 := (gk g.2).length) hg.sz hg.n hp ⟨hms, hg.os, by show (gk g.2).length ≤ (gk g.2).length + 0; omega⟩ hk
        rw [hy]
        simp only
        cases foldN (tkE (ctG g.2.1)) 0 16 (ms, gmO g.2.1, gk g.2) with
        | inl s => rfl
        | inr e =>
          have h1 : isP 44 .i64 (some (res_tk f g.2 (.inr e))) = true := isP_some
          have h2 : panO 44 .i64 (some (res_tk f g.2 (.inr e))) = ⟨e, ((), ())⟩ := panO_some
          unfold k_ti
          rw [h1, h2]
          rfl
theorem e_ti_t (Y : TY) (g : (FL_g 67).T) : evBody (X_ti 67 Y) (evFn (X_ti 67 Y) 6) 68 (ofKs (FL_g 67).ks g.1 (FL_g 67).nx) ((FL_g 67).lay.hp g) ((FL_g 67).lay.of g).nx (foutK (FE_u 67)) = T_ti 67 Y g.2 := by kernel_rfl
theorem sp_ti_t : SpecOk Tryz.prog 68 (spYT 67 Y_ti) := by
  rw [spYT, finT_eq]
  exact fspecY (X_ti_ok spT_t (l_tk_t spT_t)) 6 FE_u_nx _ _ _ _ (fun g => T_ti 67 tyG g.2) (e_ti_t tyG) fun _ _ _ h => ti_run h
theorem e_ti_r (Y : TY) (g : (FL_g 144).T) : evBody (X_ti 144 Y) (evFn (X_ti 144 Y) 6) 68 (ofKs (FL_g 144).ks g.1 (FL_g 144).nx) ((FL_g 144).lay.hp g) ((FL_g 144).lay.of g).nx (foutK (FE_u 144)) = T_ti 144 Y g.2 := by kernel_rfl
theorem sp_ti_r : SpecOk Tryz.prog 68 (spYT 144 Y_ti) := by
  rw [spYT, finT_eq]
  exact fspecY (X_ti_ok spT_r (l_tk_r spT_r)) 6 FE_u_nx _ _ _ _ (fun g => T_ti 144 tyG g.2) (e_ti_r tyG) fun _ _ _ h => ti_run h
end St
end V
end Go.Proofs.YtkiaifmbbnnliaaGreat
namespace Go.Proofs.YtkiaifmbbnnliaaGreat
open Go.RowKit
namespace V
theorem foldN_err {S B : Type} {f : Nat → S → S ⊕ B} : ∀ (k i : Nat) (s : S) (b : B), foldN f i k s = .inr b → ∃ j t, f j t = .inr b
  | 0, _, _, _, h => by cases h
  | k + 1, i, s, b, h => by
    unfold foldN at h
    cases hf : f i s with
    | inl t => rw [hf] at h; exact foldN_err k (i + 1) t b h
    | inr c => rw [hf] at h; cases h; exact ⟨i, s, hf⟩
namespace St
theorem is_sTick : FnIs Tryz.prog (21, Tryz.f21) := ⟨Tryz.func21, by kernel_rfl, by kernel_rfl⟩
theorem is_newGame : FnIs Tryz.prog (52, Tryz.f52) := ⟨Tryz.func52, by kernel_rfl, by kernel_rfl⟩
theorem is_sTry : FnIs Tryz.prog (54, Tryz.f54) := ⟨Tryz.func54, by kernel_rfl, by kernel_rfl⟩
theorem is_sTry1 : FnIs Tryz.prog (108, Tryz.f108) := ⟨Tryz.func108, by kernel_rfl, by kernel_rfl⟩
theorem is_clMot : FnIs Tryz.prog (106, Tryz.f106) := ⟨Tryz.func106, by kernel_rfl, by kernel_rfl⟩
theorem is_clBool : FnIs Tryz.prog (107, Tryz.f107) := ⟨Tryz.func107, by kernel_rfl, by kernel_rfl⟩
theorem slE_ne {l : TCT cLawn} {os : List Bool} {w fl : Int} {i : Nat} {ms : Mots} {e : Int} (h : slE l os w fl i ms = .inr e) : e ≠ 0 := by
  unfold slE at h
  cases h1 : !rollB ms os i || flyB w fl i with
  | true => rw [h1] at h; cases h
  | false =>
    rw [h1] at h
    cases h2 : cellE l (getM ms i).1 != 0 with
    | true => rw [h2] at h; cases h; exact bne_iff_ne.1 h2
    | false =>
      rw [h2] at h
      cases h3 : (slwV l (getM ms i)).2.1 != 0 with
      | true => rw [h3] at h; cases h; decide
      | false => rw [h3] at h; cases h
theorem stE_ne {bl : List (TCT cBall)} {os : List Bool} {i : Nat} {ms : Mots} {e : Int} (h : stE bl os i ms = .inr e) : e ≠ 0 := by
  unfold stE at h
  cases h1 : !rollB ms os i with
  | true => rw [h1] at h; cases h
  | false =>
    rw [h1] at h
    cases h3 : (stpV (getB bl i) (getM ms i)).2.1 != 0 with
    | true => rw [h3] at h; cases h; exact bne_iff_ne.1 h3
    | false => rw [h3] at h; cases h
theorem mvF_ne {bl : List (TCT cBall)} {l : TCT cLawn} {t st : Int} {n : Nat} {s : S2} {e : Int} (h : mvF bl l t st n s = .inr e) : e ≠ 0 := by
  unfold mvF at h
  cases h1 : foldN (stE bl s.2.1) 0 n s.1 with
  | inr e' =>
    rw [h1] at h
    cases h
    obtain ⟨j, t, hj⟩ := foldN_err _ _ _ _ h1
    exact stE_ne hj
  | inl ms =>
    rw [h1] at h
    obtain ⟨s', hs'⟩ := foldN_inl (lvE_inl (l := l) (t := t) (st := st)) n 0 (ms, s.2.1, s.2.2)
    change foldN (lvE l t st) 0 n (ms, s.2.1, s.2.2) = .inr e at h
    rw [hs'] at h
    cases h
theorem seF_ne {bl : List (TCT cBall)} {c : TCT cBnc} {t st w fl : Int} {n : Nat} {s : S2} {e : Int} (h : seF bl c t st w fl n s = .inr e) : e ≠ 0 := by
  unfold seF at h
  cases he : (seS bl c w fl n s).2.2.1 != 0 with
  | true => rw [he] at h; cases h; exact bne_iff_ne.1 he
  | false => rw [he] at h; cases h
theorem bpE_ne {b : TCT cBall} {c : TCT cBnc} {ps : Dss} {os : List Bool} {w fl t st : Int} {i k : Nat} {s : MK} {e : Int} (h : bpE b c ps os w fl t st i k s = .inr (.inr e)) : e ≠ 0 := by
  unfold bpE at h
  cases h1 : !rollB s.1 os i || flyB w fl i with
  | true => rw [h1] at h; cases h
  | false =>
    rw [h1] at h
    cases h2 : (bmV b (getM s.1 i) (getD4 ps k) c).2.1 == 0 with
    | true => rw [h2] at h; cases h
    | false =>
      rw [h2] at h
      cases h3 : (bmV b (getM s.1 i) (getD4 ps k) c).2.1 == 4 with
      | true =>
        rw [h3] at h
        cases h
        exact beq_eq_false_iff_ne.1 h2
      | false => rw [h3] at h; cases h
theorem buF_ne {bl : List (TCT cBall)} {c : TCT cBnc} {ps : Dss} {t st w fl : Int} {n : Nat} {s : S2} {e : Int} (h : buF bl c ps t st w fl n s = .inr e) : e ≠ 0 := by
  unfold buF at h
  obtain ⟨j, u, hj⟩ := foldN_err _ _ _ _ h
  unfold boE at hj
  cases hf : foldN (bpE (getB bl j) c ps s.2.1 w fl t st j) 0 ps.length u with
  | inl a => rw [hf] at hj; cases hj
  | inr y =>
    rw [hf] at hj
    obtain ⟨k, v, hk⟩ := foldN_err _ _ _ _ hf
    have : y = .inr e := hj
    subst this
    exact bpE_ne hk
theorem tkE_ne {k : CT} {i : Nat} {s : S2} {e : Int} (h : tkE k i s = .inr e) : e ≠ 0 := by
  unfold tkE at h
  cases h1 : mvF k.bl k.l k.t ((i + 1 : Nat) : Int) k.bl.length s with
  | inr e' => rw [h1] at h; cases h; exact mvF_ne h1
  | inl s1 =>
    rw [h1] at h
    simp only at h
    cases h2 : seF k.bl k.c k.t ((i + 1 : Nat) : Int) k.w k.fl k.bl.length s1 with
    | inr e' => rw [h2] at h; cases h; exact seF_ne h2
    | inl s2 =>
      rw [h2] at h
      simp only at h
      cases h3 : buF k.bl k.c k.ps k.t ((i + 1 : Nat) : Int) k.w k.fl k.bl.length (s2.1, s1.2.1, s2.2) with
      | inr e' => rw [h3] at h; cases h; exact buF_ne h3
      | inl s3 => rw [h3] at h; cases h
theorem tkF_ne {k : CT} {s : S2} {e : Int} (h : tkF k s = .inr e) : e ≠ 0 := by
  unfold tkF at h
  cases h0 : k.t == 4000 with
  | true => rw [h0] at h; cases h; decide
  | false =>
    rw [h0] at h
    simp only [cond_false] at h
    cases h1 : foldN (slE k.l s.2.1 k.w k.fl) 0 k.bl.length s.1 with
    | inr e' =>
      rw [h1] at h
      cases h
      obtain ⟨j, t, hj⟩ := foldN_err _ _ _ _ h1
      exact slE_ne hj
    | inl ms =>
      rw [h1] at h
      obtain ⟨j, t, hj⟩ := foldN_err _ _ _ _ h
      exact tkE_ne hj
def ctS (g : TCT cGr) (s : TCT cSt) : CT := ⟨ballsG g, g.1, g.2.2.1, postsV g.1, s.2.2.1, s.2.2.2.1, s.2.2.2.2.1⟩
abbrev TkR : Type := TCTs [cSt, .sl cKn, cI]
def errT (e : Int) : TkR := (zS, [], e, ())
def tkR (s : TCT cSt) : S2 ⊕ Int → TkR
  | .inl r => ((r.1, r.2.1, s.2.2.1, max 0 (W64 (s.2.2.2.1 - 1)), W64 (s.2.2.2.2.1 + 1), ()), r.2.2, 0, ())
  | .inr e => errT e
def tkV (g : TCT cGr) (s : TCT cSt) : TkR := tkR s (tkF (ctS g s) (msT s, osT s, []))
def TickV (g : TCT cGr) (s : TCT cSt) : TkR := bif staE g s != 0 then errT (staE g s) else tkV g s
def etaR (r : TkR) : TkR := (etaS r.1, r.2.1, r.2.2.1, ())
abbrev s_Tick4 : PureT := spec [cGr, cSt] [cSt, .sl cKn, cI] (fun x => decide ((x.1.1.1.size : Int) ≤ maxK .i64)) (fun x => etaR (TickV x.1 x.2.1))
abbrev TTR := Tree TkR
def gT (g : TCT cGr) (s : TCT cSt) : GB := ((g.1.1, g.1.2.1, g.1.2.2.1, g.1.2.2.2.1, g.1.2.2.2.2.1, g.1.2.2.2.2.2.1.1.1, g.1.2.2.2.2.2.1.1.2.1, g.1.2.2.2.2.2.1.2.1, g.1.2.2.2.2.2.2.1, g.1.2.2.2.2.2.2.2.1, g.1.2.2.2.2.2.2.2.2.1, g.2.1, g.2.2.1.1, g.2.2.1.2.1, postsV g.1, ([] ++ s.1), ([] ++ s.2.1), s.2.2.1, s.2.2.2.1, s.2.2.2.2.1, 0, ((), (), ()), ()), ([], ()), ())
def neT {β : Type} {c : Type} (l : List c) (k : Tree β) : Tree β := bif !List.isEmpty l then k else .fail
theorem neT_ok {β : Type} {c : Type} {l : List c} {k : Tree β} (h : 1 ≤ l.length) : neT l k = k := by
  cases l with
  | nil => simp at h
  | cons _ _ => rfl
def acT {β : Type} {c : Type} (l : List c) (b : Nat) (k : Tree β) : Tree β := bif appOk [] l b then k else .fail
theorem acT_ok {β : Type} {c : Type} {l : List c} {b : Nat} {k : Tree β} (h : l.length ≤ 1000) (hb : b ≤ 48) : acT l b k = k := by
  unfold acT
  rw [app_ok (by simp; omega) hb]; rfl
def T_Tk (Y : Y2) (g : TCT cGr) (s : TCT cSt) : TTR := szT g.1 (bif staE g s != 0 then .leaf (errT (staE g s)) else szT g.1 (neT (msT s) (acT (msT s) 48 (neT (osT s) (acT (osT s) 1 (
  thY (Y (gT g s)) z2 (fun e => bif e != 0 then .leaf (errT e) else .fail) fun r => .leaf (tkR s (.inl r))))))))
abbrev plTk : List (Nat × PureT) := (105, s_Posts) :: plGm
theorem puTk : PuOk Tryz.prog plTk := puOk_cons is_Posts.plain q_Posts puGm
noncomputable def fnTk : List (Nat × Func) := [(21, Tryz.f21), (52, Tryz.f52), (54, Tryz.f54), (108, Tryz.f108), (106, Tryz.f106), (107, Tryz.f107)]
noncomputable def X_tT (Y : Y2) : Ctx := ctxS Tryz.prog plTk fnTk [] [(68, spYT 67 Y)]
theorem T_Tk_eq (Y : Y2) (x : TCTs [cGr, cSt]) : evFn (X_tT Y) 8 (.fn 21) (encAs [cGr, cSt] x) noHeap 0 (outK Tryz.prog [cSt, .sl cKn, cI]) = T_Tk Y x.1 x.2.1 := by kernel_rfl
theorem X_tT_ok : CtxOk (X_tT Y_ti) := ctxS_ok mixed puTk (fns_cons is_sTick (fns_cons is_newGame (fns_cons is_sTry (fns_cons is_sTry1 (fns_cons is_clMot (fns_cons is_clBool fns_nil)))))) no_loops4 (fun p hp => by
  rw [List.mem_singleton] at hp; subst hp; exact ⟨is_gtick.plain, sp_ti_t⟩)
theorem postsV_len {l : TCT cLawn} : (postsV l).length ≤ 25 := by
  unfold postsV
  cases h : lawE l == 0 with
  | false => show (0 : Nat) ≤ 25; omega
  | true =>
    have k : lawE l = 0 := beq_iff_eq.1 h
    have hh : (hoopsL l).length ≤ 12 := by
      unfold lawE manyB at k
      cases h1 : decide (((hoopsL l).length : Int) < 1) || (decide (((hoopsL l).length : Int) > 12) || decide (((cellsL l).length : Int) > 256)) with
      | true => rw [h1] at k; cases k
      | false =>
        simp only [Bool.or_eq_false_iff, decide_eq_false_iff_not] at h1
        omega
    show (postsF l).length ≤ 25
    rw [posts_len]
    omega
structure StaOk (g : TCT cGr) (s : TCT cSt) : Prop where
  gr : groE g = 0
  n1 : 1 ≤ (ballsG g).length
  n8 : (ballsG g).length ≤ 8
  m : (msT s).length = (ballsG g).length
  o : (osT s).length = (ballsG g).length
  ok : allI (okS g (osT s)) 0 (msT s) = true
  num : numS (ballsG g).length s = false
theorem sta_ok {g : TCT cGr} {s : TCT cSt} (h : staE g s = 0) : StaOk g s := by
  unfold staE at h
  cases h1 : groE g != 0 with
  | true => rw [h1, cond_true] at h; exact absurd h (bne_iff_ne.1 h1)
  | false =>
    have hg : groE g = 0 := bne_eq_false_iff_eq.1 h1
    rw [h1, cond_false] at h
    unfold vaE at h
    cases h2 : eqlS g s with
    | false => rw [h2] at h; cases h
    | true =>
      rw [h2, cond_true] at h
      cases h3 : allI (okS g (osT s)) 0 (msT s) with
      | false => rw [h3] at h; cases h
      | true =>
        rw [h3, cond_true] at h
        cases h4 : numS (ballsG g).length s with
        | true => rw [h4] at h; cases h
        | false =>
          have a := gro_len hg
          have b := eqlS_iff h2
          exact ⟨hg, a.1, a.2, b.1, b.2, h3, h4⟩
theorem okTk_gT {g : TCT cGr} {s : TCT cSt} (hs : (g.1.1.size : Int) ≤ maxK .i64) (h : StaOk g s) : okTk (gT g s) = true := by
  unfold okTk okGP okGB
  simp only [Bool.and_eq_true, decide_eq_true_eq]
  refine ⟨⟨⟨okGM_iff.2 ⟨hs, ?_, ?_, h.n8⟩, by show (0 : Nat) ≤ 900000; omega⟩, ?_⟩, by show (0 : Nat) ≤ 700000; omega⟩
  · show ([] ++ s.1 : Mots).length = (ballsG g).length
    rw [List.nil_append]; exact h.m
  · show ([] ++ s.2.1 : List Bool).length = (ballsG g).length
    rw [List.nil_append]; exact h.o
  · have := postsV_len (l := g.1)
    show (postsV g.1).length ≤ 1000
    omega
theorem Y_ti_gT {g : TCT cGr} {s : TCT cSt} (hs : (g.1.1.size : Int) ≤ maxK .i64) (h : StaOk g s) : Y_ti (gT g s) = some (tkF (ctS g s) (msT s, osT s, [])) := by
  unfold Y_ti
  rw [okTk_gT hs h]
  rfl
theorem T_Tk_ok {g : TCT cGr} {s : TCT cSt} (hs : (g.1.1.size : Int) ≤ maxK .i64) : (T_Tk Y_ti g s).sat (fun y => y = etaR (TickV g s)) := by
  unfold T_Tk TickV
  rw [szT_ok hs, szT_ok hs]
  cases h1 : staE g s != 0 with
  | true => exact rfl
  | false =>
    have h := sta_ok (bne_eq_false_iff_eq.1 h1)
    have hn1 := h.n1
    have hn8 := h.n8
    have hm := h.m
    have ho := h.o
    simp only [cond_false]
    rw [neT_ok (by omega), acT_ok (by omega) (by decide), neT_ok (by omega), acT_ok (by omega) (by decide)]
    have hy := Y_ti_gT hs h
    unfold tkV
    cases hf : tkF (ctS g s) (msT s, osT s, []) with
    | inl r => rw [hf] at hy; rw [thY_l hy]; exact rfl
    | inr e =>
      rw [hf] at hy
      rw [thY_r hy, show (e != 0) = true from bne_iff_ne.2 (tkF_ne hf)]
      exact rfl
theorem q_Tick4 : PureOk Tryz.prog 21 s_Tick4 := q_by X_tT_ok 8 (fun x => T_Tk Y_ti x.1 x.2.1) (T_Tk_eq Y_ti) fun x hok _ => T_Tk_ok (of_decide_eq_true hok)
end St
end V
end Go.Proofs.YtkiaifmbbnnliaaGreat
namespace Go.Proofs.YtkiaifmbbnnliaaGreat
open Go.RowKit
namespace V
def specF (cs rs : List TC) (ok : TCTs cs → Bool) (F : TCTs cs → TCTs rs) : PureT :=
  { run := fun l => match decAs cs l with
      | some x => fcTs cs x fun x => fcTs rs (F x) fun y => some (ok x, encR rs y)
      | none => none
    flat := noSls rs }
theorem specF_eq (cs rs : List TC) (ok : TCTs cs → Bool) (F : TCTs cs → TCTs rs) : specF cs rs ok F = spec cs rs ok F := by
  unfold specF spec
  congr 1
  funext l
  cases decAs cs l with
  | none => rfl
  | some x => simp only [fcTs_eq]
theorem specF_ok {P : Program} {f : FuncId} {cs rs : List TC} {ok : TCTs cs → Bool} {F : TCTs cs → TCTs rs} (h : PureOk P f (spec cs rs ok F)) : PureOk P f (specF cs rs ok F) := by rw [specF_eq]; exact h
mutual
def dec4 : (c : TC) → (x y : TCT c) → Decidable (x = y)
  | .b, x, y => instDecidableEqBool x y
  | .i _, x, y => Int.instDecidableEq x y
  | .s, x, y => ByteArray.instDecidableEq x y
  | .sl c, x, y => @instDecidableEqList _ (fun a b => dec4 c a b) x y
  | .st cs, x, y => decs4 cs x y
def decs4 : (cs : List TC) → (x y : TCTs cs) → Decidable (x = y)
  | [], (), () => isTrue rfl
  | c :: cs, (a, b), (d, e) => match dec4 c a d with
    | isTrue h => match decs4 cs b e with
      | isTrue k => isTrue (by rw [h, k])
      | isFalse k => isFalse fun e => k (Prod.mk.inj e).2
    | isFalse h => isFalse fun e => h (Prod.mk.inj e).1
end
namespace St
theorem is_Works4 : FnIs Tryz.prog (15, Tryz.f15) := ⟨Tryz.func15, by kernel_rfl, by kernel_rfl⟩
theorem is_Example4 : FnIs Tryz.prog (44, Tryz.f44) := ⟨Tryz.func44, by kernel_rfl, by kernel_rfl⟩
theorem is_begin4 : FnIs Tryz.prog (45, Tryz.f45) := ⟨Tryz.func45, by kernel_rfl, by kernel_rfl⟩
theorem is_blow4 : FnIs Tryz.prog (46, Tryz.f46) := ⟨Tryz.func46, by kernel_rfl, by kernel_rfl⟩
theorem is_sStrike : FnIs Tryz.prog (16, Tryz.f16) := ⟨Tryz.func16, by kernel_rfl, by kernel_rfl⟩
def exL : TCT cLawn := (⟨#[103, 114, 101, 101, 110]⟩, 100000, 200000, 5000, [(50000, 40000, 6000, 500, false, ()), (30000, 100000, 6000, 500, true, ())], ((50000, 100000, ()), 1200, ()), 2, 1, [(10000, 0, 0, ()), (10000, 0, 0, ())], ())
def exG : TCT cGr := (exL, [(450, 2946, ()), (450, 2946, ())], (800, 0, ()), ())
def exS : TCT cSt := ([((50000, 60000, ()), (0, 200000, ()), (0, 0, ()), ()), ((80000, 60000, ()), (0, 0, ()), (0, 0, ()), ())], [false, false], 0, 0, 0, ())
def ex1 : Mots := [((50000, 60000, ()), (0, 190000, ()), (0, 0, ()), ()), ((80000, 60000, ()), (0, 0, ()), (0, 0, ()), ())]
def ex2 : Mots := [((50000, 60106, ()), (0, 190000, ()), (0, -12800, ()), ()), ((80000, 60000, ()), (0, 0, ()), (0, 0, ()), ())]
def exR : TkR := ((ex2, [false, false], 0, 0, 1, ()), [], 0, ())
theorem slN_ex : slN 0 200000 = 1600000 := rt_unique _ _ (by decide) (by decide) (by decide)
theorem slwV_ex : slwV exL (getM (msT exS) 0) = ((0, 190000, ()), 0, ()) := by
  show SlowR 0 200000 10000 = _
  unfold SlowR
  rw [slN_ex]
  rfl
theorem sl0_ex : slE exL [false, false] 0 0 0 (msT exS) = .inl ex1 := by
  unfold slE slwM
  rw [slwV_ex]
  kernel_rfl
theorem sl1_ex : slE exL [false, false] 0 0 1 ex1 = .inl ex1 := by kernel_rfl
theorem st_ex : foldN (tkE (ctS exG exS)) 0 16 (ex1, [false, false], []) = .inl (ex2, [false, false], []) := by kernel_rfl
theorem sta_ex : staE exG exS = 0 := by kernel_rfl
theorem tkF_of {k : CT} {s : S2} {ms : Mots} {r : S2 ⊕ Int} (h0 : (k.t == 4000) = false) (h1 : foldN (slE k.l s.2.1 k.w k.fl) 0 k.bl.length s.1 = .inl ms) (h2 : foldN (tkE k) 0 16 (ms, s.2.1, s.2.2) = r) : tkF k s = r := by
  unfold tkF
  rw [h0]
  simp only [cond_false]
  rw [h1]
  exact h2
theorem foldN_two {S B : Type} {f : Nat → S → S ⊕ B} {s s1 s2 : S} (h0 : f 0 s = .inl s1) (h1 : f 1 s1 = .inl s2) : foldN f 0 2 s = .inl s2 := by
  unfold foldN
  rw [h0]
  show foldN f 1 1 s1 = _
  unfold foldN
  rw [h1]
  rfl
theorem tkF_ex : tkF (ctS exG exS) (msT exS, osT exS, []) = .inl (ex2, [false, false], []) := tkF_of (by kernel_rfl) (foldN_two sl0_ex sl1_ex) st_ex
theorem TickV_ex : TickV exG exS = exR := by
  unfold TickV tkV
  rw [sta_ex, tkF_ex]
  rfl
def isEx (g : TCT cGr) (s : TCT cSt) : Bool := match dec4 cGr g exG, dec4 cSt s exS with
  | isTrue _, isTrue _ => true
  | _, _ => false
theorem isEx_eq {g : TCT cGr} {s : TCT cSt} (h : isEx g s = true) : g = exG ∧ s = exS := by
  unfold isEx at h
  split at h
  · rename_i h1 h2 _ _
    exact ⟨h1, h2⟩
  · cases h
abbrev s_TickX : PureT := spec [cGr, cSt] [cSt, .sl cKn, cI] (fun x => isEx x.1 x.2.1) (fun _ => exR)
theorem q_TickX : PureOk Tryz.prog 21 s_TickX := q_weak q_Tick4 fun x _ h => by
  obtain ⟨g, s, ⟨⟩⟩ := x
  obtain ⟨rfl, rfl⟩ := isEx_eq h
  exact ⟨by kernel_rfl, by
    show exR = etaR (TickV exG exS)
    rw [TickV_ex]
    rfl⟩
def s_SettleF : PureT := specF [.sl cBall, .sl cMot, cBnc] [.sl cMot, .sl cPair, cI] (fun _ => true) (fun x => ((SettleR x.1 x.2.1 x.2.2.1.1 x.2.2.1.2.1).1, (SettleR x.1 x.2.1 x.2.2.1.1 x.2.2.1.2.1).2.1, (SettleR x.1 x.2.1 x.2.2.1.1 x.2.2.1.2.1).2.2.1, ()))
def plW0 : List (Nat × PureT) := (114, s_SettleF) :: (56, s_Towards) :: plTk
theorem puW0 : PuOk Tryz.prog plW0 := puOk_cons is_Settle.plain (specF_ok q_Settle) (puOk_cons is_Towards.plain q_Towards puTk)
noncomputable def X_w0 : Ctx := ctxU 20 Tryz.prog plW0 allF
theorem X_w0_ok : CtxOk X_w0 := ctxU_ok mixed puW0 allF_ok
noncomputable def plW1 : List (Nat × PureT) := (44, autoF X_w0 40 44 [] [cGr]) :: (45, autoF X_w0 40 45 [cI, cI] [cSt]) :: (46, autoF X_w0 40 46 [] [cBl]) :: (21, s_TickX) :: (16, autoF X_w0 60 16 [cGr, cSt, cBl] [cSt, .sl cKn, cI]) :: plW0
theorem puW1 : PuOk Tryz.prog plW1 := puOk_cons is_Example4.plain (autoF_ok X_w0_ok _ _ _ _) (puOk_cons is_begin4.plain (autoF_ok X_w0_ok _ _ _ _) (puOk_cons is_blow4.plain (autoF_ok X_w0_ok _ _ _ _) (puOk_cons is_sTick.plain q_TickX (puOk_cons is_sStrike.plain (autoF_ok X_w0_ok _ _ _ _) puW0 (panOk_none rfl)) (panOk_none rfl)) (panOk_none rfl)) (panOk_none rfl)) (panOk_none rfl)
abbrev s_Works : PureT := spec [] [.b] (fun _ => true) (fun _ => (true, ()))
set_option maxRecDepth 100000 in
theorem q_Works4 : PureOk Tryz.prog 15 s_Works := q_leaf (ctxU_ok (u := 20) mixed puW1 allF_ok) 60 (fun _ => by kernel_rfl)
end St
end V
end Go.Proofs.YtkiaifmbbnnliaaGreat
namespace Go.Proofs.YtkiaifmbbnnliaaGreat
open Go.RowKit
namespace V
namespace St
end St
end V
end Go.Proofs.YtkiaifmbbnnliaaGreat
