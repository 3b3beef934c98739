import Derived.Test.YtkiaifmbbnnliaaGreatCq
namespace Go.Proofs.YtkiaifmbbnnliaaGreat
open Go.RowKit
namespace V
def Afx {L : Lay2} {E : XE → Lay2} {A : Type} (t : TypeId) (k : IntKind) (Y : L.T → Option (A ⊕ Int)) (mk : L.T → A → (E (.exit 0)).T) (pn : L.T → (n : Int) → (E (.panic (.ifc t (.int k n)))).T) (d : A) (g : L.T) : Tree (Df E) :=
 .br (isL (Y g)) (.leaf ⟨.exit 0, mk g (gL d (Y g))⟩) (.br (isR (Y g)) (.leaf ⟨.panic (.ifc t (.int k (gR 0 (Y g)))), pn g (gR 0 (Y g))⟩) .fail)
def Be2 {L : Lay2} {E : XE → Lay2} {A : Type} (t : TypeId) (k : IntKind) (mk : L.T → A → (E (.exit 0)).T) (pn : L.T → (n : Int) → (E (.panic (.ifc t (.int k n)))).T) (g : L.T) : A ⊕ Int → Df E
 | .inl a => ⟨.exit 0, mk g a⟩
 | .inr e => ⟨.panic (.ifc t (.int k e)), pn g e⟩
theorem A0v {X : Ctx} (hX : CtxOk X) (m : Nat) (fn : FuncId) {c : Code} (L : Lay2) (E : XE → Lay2) (hE : ∀ e, L.nx ≤ (E e).nx) {A : Type} (t : TypeId) (k : IntKind) (Y : L.T → Option (A ⊕ Int)) (mk : L.T → A → (E (.exit 0)).T) (pn : L.T → (n : Int) → (E (.panic (.ifc t (.int k n)))).T) (d : A) (step : L.T → Tree (L.T ⊕ Df E))
  (hstep : ∀ g, evC X.P (C4 X m) X.pures fn X.u (fun _ => none) c (L.of g) (Fq L E) = step g)
  (hfin : ∀ g z, L.WF g → Y g = some z → ∃ n, ∀ R : Df E → Prop, R (Be2 t k mk pn g z) → Td L E step R n g) : Ae X.P fn c (Fr L E (Afx t k Y mk pn d)) := by
 refine Pe hX m fn (fun _ => none) (fun _ _ f h => by simp at h) L E hE (Afx t k Y mk pn d) step hstep ?_
 intro g R hw hf
 obtain ⟨h1, h2⟩ := hf
 cases hY : Y g with
 | none =>
  rw [hY] at h2
  exact ((h2 rfl).2 rfl).elim
 | some z =>
  obtain ⟨n, hn⟩ := hfin g z hw hY
  refine ⟨n, hn R ?_⟩
  rw [hY] at h1 h2
  cases z with
  | inl a => exact h1 rfl
  | inr e => exact (h2 rfl).1 rfl
namespace St
theorem is_bE : FnIs Tryz.prog (83, Tryz.f83) := ⟨Tryz.func83, by kernel_rfl, by kernel_rfl⟩
theorem is_bF : FnIs Tryz.prog (145, Tryz.f145) := ⟨Tryz.func145, by kernel_rfl, by kernel_rfl⟩
theorem is_bG : FnIs Tryz.prog (146, Tryz.f146) := ⟨Tryz.func146, by kernel_rfl, by kernel_rfl⟩
theorem is_bH : FnIs Tryz.prog (177, Tryz.f177) := ⟨Tryz.func177, by kernel_rfl, by kernel_rfl⟩
theorem is_bI : FnIs Tryz.prog (37, Tryz.f37) := ⟨Tryz.func37, by kernel_rfl, by kernel_rfl⟩
theorem is_bJ : FnIs Tryz.prog (84, Tryz.f84) := ⟨Tryz.func84, by kernel_rfl, by kernel_rfl⟩
theorem is_bK : FnIs Tryz.prog (39, Tryz.f39) := ⟨Tryz.func39, by kernel_rfl, by kernel_rfl⟩
theorem is_bL : FnIs Tryz.prog (87, Tryz.f87) := ⟨Tryz.func87, by kernel_rfl, by kernel_rfl⟩
noncomputable def Ayk : List (Nat × Func) := [(83, Tryz.f83), (145, Tryz.f145), (146, Tryz.f146), (177, Tryz.f177), (52, Tryz.f52), (54, Tryz.f54), (108, Tryz.f108), (57, Tryz.f57), (106, Tryz.f106), (107, Tryz.f107), (37, Tryz.f37), (84, Tryz.f84), (39, Tryz.f39), (87, Tryz.f87)]
theorem A30 : ∀ p ∈ Ayk, FnIs Tryz.prog p := fns_cons is_bE (fns_cons is_bF (fns_cons is_bG (fns_cons is_bH (fns_cons is_bh (fns_cons is_bi (fns_cons is_bj (fns_cons is_a8 (fns_cons is_bk (fns_cons is_bl (fns_cons is_bI (fns_cons is_bJ (fns_cons is_bK (fns_cons is_bL A2)))))))))))))
noncomputable def A0w : Code := (A8 (bodyOf Tryz.f177)).getD 0 .skip
abbrev kGo (k : Nat) : List SK := [.d .s, .d cI, .d cI, .d cI, .d (.sl Bh), .d cI, .d cI, .d cI, .d cI, .d cI, .d (.sl C7), .d (.sl A4), .d cI, .d cI, .d (.sl Al), .o 62 Aj, .o 4 .b, .d cI, .d cI, .d cI, .d cI, .f 144 [] [.p k 0 0 0]]
abbrev kSn : List SK := [.o 62 Aj, .o 4 .b, .d cI, .d cI, .d cI]
noncomputable def lkR (o : Nat) : LK := { id := o + 31, keys := [2, 3], ks := [.p (o + 8) 0 0 0, .p (o + 6) 0 0 0], n := 16, fn := 145, params := [8], assign := (rangeAt Tryz.f145 0).1, body := (rangeAt Tryz.f145 0).2, df := o + 30, st := some 0 }
def Bhz : List BK := [(2, 38, kSn), (6, 124, [.f 84 [] []]), (7, 38, kSn), (8, 43, [.o 57 cKn]), (25, 99, kGo 8), (26, 91, [.p 25 0 0 0]), (27, 44, [.d cI]), (28, 91, [.p 25 0 0 0]), (29, 3, [.d cI])]
def Bi0 : List BK := [(2, 38, kSn), (7, 38, kSn), (8, 43, [.o 57 cKn]), (25, 99, kGo 8), (26, 91, [.p 25 0 0 0]), (27, 44, [.d cI])]
def Bi1 : List BK := [(2, 38, kSn), (7, 38, kSn), (27, 44, [.d cI])]
noncomputable def Tv : Lay2 := { keys := [0, 1, 2], ks := [.y 31, .p 28 0 0 0, .p 29 0 0 0], bs := Bhz, ls := [lkR 0], n := 25, nx := 1000, marks := [], ds := [30] }
noncomputable def Be3 : Lay2 := { keys := [], ks := [], bs := Bi0, ls := [lkR 0], n := 25, nx := 1000, marks := [], ds := [30] }
def Be4 : Lay2 := { keys := [], ks := [], bs := Bi1, ls := [], n := 25, nx := 1000, marks := [], ds := [30] }
noncomputable def Abr : XE → Lay2 := fun e => match e with | .panic _ => Be4 | _ => Be3
noncomputable def Abs (Y : Y2) : Ctx := Kj Tryz.prog Aio Ayk [] [(68, spYT 144 Y)]
theorem Afy : CtxOk (Abs Hy) := D8 Ab Ap1 A30 G5 (fun p hp => by
 rw [List.mem_singleton] at hp; subst hp; exact ⟨is_bd.plain, Axc⟩)
noncomputable def lsP (o : Nat) : LTs [lkR o] := (((((), (), ()) : SKTs (lkR o).ks), ((() : Unit) : StT (lkR o).st)), ())
structure CP where
 a : SKTs kSn
 b : SKTs kSn
 e : Int
def cpl (g : Tv.T) : CP := ⟨g.2.1.1, g.2.1.2.2.1, g.2.1.2.2.2.2.2.2.1.1⟩
def xpl (g : Tv.T) : GB := (g.2.1.2.2.2.2.1, (g.2.1.2.2.2.1.1, ()), ())
def npl (g : Tv.T) : Int := g.2.1.2.2.2.2.2.2.2.2.1.1
noncomputable def B39 (c : CP) (x : GB) (n : Int) : Tv.T := (((), (), (), ()), (c.a, (((), ()), ()), c.b, (x.2.1.1, ()), x.1, ((), ()), (c.e, ()), ((), ()), (n, ()), ()), lsP 0)
noncomputable def Ar3 (c : CP) (x : GB) : Be3.T := ((), (c.a, c.b, (x.2.1.1, ()), x.1, ((), ()), (c.e, ()), ()), lsP 0)
def Ar4 (c : CP) : Be4.T := ((), (c.a, c.b, (c.e, ()), ()), ())
abbrev TPl := Tree (Tv.T ⊕ Df Abr)
noncomputable def B3a (c : CP) (x : GB) : TPl := .need (Gp [lkR 0]) (.leaf (.inr ⟨.exit 0, Ar3 c x⟩))
noncomputable def B3b (c : CP) (e : Int) : TPl := .need (Gp []) (.leaf (.inr ⟨.panic (.ifc 44 (.int .i64 e)), Ar4 c⟩))
def stG (m : GM) : TCT cSt := (gmM m, gmO m, gmW m, gmF m, gmT m, ())
noncomputable def Oy (Y : Y2) (c : CP) (x : GB) (n : Int) : TPl := bif decide (((gk x).length : Int) > 4096) then B3b c 6 else bif decide (n > 0) then bif !C0 (stG x.1) then thY (Y x) z2 (B3b c) fun s => .need (Gp [lkR 0]) (.leaf (.inl (B39 c (xT x s) (W64 (n - 1))))) else B3a c x else B3a c x
theorem Bi2 (Y : Y2) (g : Tv.T) : evC Tryz.prog (C4 (Abs Y) 9) (Abs Y).pures 177 (Abs Y).u (fun _ => none) A0w (Tv.of g) (Fq Tv Abr) = Oy Y (cpl g) (xpl g) (npl g) := by kernel_rfl
def O0 : Nat → GB → GB ⊕ Int
 | 0, x => bif decide (((gk x).length : Int) > 4096) then .inr 6 else .inl x
 | n + 1, x => bif decide (((gk x).length : Int) > 4096) then .inr 6 else bif !C0 (stG x.1) then match tkF (ctG x.1) (gs x) with
  | .inl s => O0 n (xT x s)
  | .inr e => .inr e
  else .inl x
abbrev YP : Type := GB → Int → Option (GB ⊕ Int)
def A6u (x : GB) (n : Int) : Bool := Aig x.1 && (decide ((gmP x.1).length ≤ 1000) && decide (0 ≤ n ∧ n ≤ 4000))
def A6v (x : GB) (n : Int) : Option (GB ⊕ Int) := bif A6u x n then some (O0 (Int.toNat n) x) else none
def zGB : GB := (dflKs (kGm 0), ([], ()), ())
noncomputable def B7q (Y : YP) : Tv.T → Tree (Df Abr) := Afx 44 .i64 (fun g => Y (xpl g) (npl g)) (fun g => Ar3 (cpl g)) (fun g _ => Ar4 (cpl g)) zGB
noncomputable def B3c (Y : YP) : St → Tree (XE × St) := Fr Tv Abr (B7q Y)
theorem Afz {l : TCT An} {os : List Bool} {w fl : Int} {i : Nat} {ms ms' : Af} (h : slE l os w fl i ms = .inl ms') : ms'.length = ms.length := by
 unfold slE at h
 cases h1 : !C1 ms os i || El w fl i with
 | true => rw [h1] at h; cases h; rfl
 | false =>
  rw [h1] at h
  cases h2 : Gh l (Ai ms i).1 != 0 with
  | true => rw [h2] at h; cases h
  | false =>
   rw [h2] at h
   cases h3 : (Ls l (Ai ms i)).2.1 != 0 with
   | true => rw [h3] at h; cases h
   | false => rw [h3] at h; cases h; exact Br _ _ _
theorem Ag0 {k : CT} {s s' : S2} (hn : k.bl.length ≤ 8) (hp : k.ps.length ≤ 1000) (hm : s.1.length = k.bl.length) (ho : s.2.1.length = k.bl.length) (h : tkF k s = .inl s') : s'.1.length = k.bl.length ∧ s'.2.1.length = k.bl.length := by
 unfold tkF at h
 cases h0 : k.t == 4000 with
 | true => rw [h0] at h; cases h
 | false =>
  rw [h0] at h
  simp only [cond_false] at h
  cases h1 : Ag (slE k.l s.2.1 k.w k.fl) 0 k.bl.length s.1 with
  | inr e => rw [h1] at h; cases h
  | inl ms =>
   rw [h1] at h
   have a : ms.length = k.bl.length := B8 (n := k.bl.length) (Inv := fun _ (s : Af) => s.length = k.bl.length) (fun i s s' _ hl h => (Afz h).trans hl) k.bl.length 0 _ _ (by omega) hm h1
   have h2 : Ag (tkE k) 0 16 (ms, s.2.1, s.2.2) = .inl s' := h
   have b : Inv2 k.bl.length (s.2.2.length + 16 * 8072) 0 s' := B8 (n := 16) (Inv := fun i s2 => Inv2 k.bl.length (s.2.2.length + i * 8072) 0 s2) (fun i s s' hi hs h => U6 (m := 16) hn hp i s s' hi hs h) 16 0 (ms, s.2.1, s.2.2) s' (by omega) ⟨a, ho, by show s.2.2.length ≤ s.2.2.length + 0 * 8072 + 0; omega⟩ h2
   exact ⟨b.m, b.o⟩
theorem Ag1 {x : GB} {s : S2} (h : OkGM x.1) (hp : (gmP x.1).length ≤ 1000) (ht : tkF (ctG x.1) (gs x) = .inl s) : OkGM (xT x s).1 := by
 have a := Ag0 (k := ctG x.1) h.n hp h.ms h.os ht
 exact E3.1 (E3.2 ⟨h.sz, a.1, a.2, h.n⟩)
theorem Ag2 (c : CP) {R : Df Abr → Prop} : ∀ (n : Nat) (x : GB), n ≤ 4000 → OkGM x.1 → (gmP x.1).length ≤ 1000 → R (match O0 n x with
  | .inl x' => ⟨.exit 0, Ar3 c x'⟩
  | .inr e => ⟨.panic (.ifc 44 (.int .i64 e)), Ar4 c⟩) → Td Tv Abr (fun g => Oy Hy (cpl g) (xpl g) (npl g)) R (n + 1) (B39 c x n)
 | 0, x, _, h, hp, hR => by
  intro _
  show (Oy Hy c x ((0 : Nat) : Int)).sat _
  unfold Oy
  unfold O0 at hR
  cases hm : decide (((gk x).length : Int) > 4096) with
  | true => rw [hm] at hR; exact ⟨trivial, fun _ => hR⟩
  | false =>
   rw [hm] at hR
   exact ⟨Ch _, fun _ => hR⟩
 | n + 1, x, hn, h, hp, hR => by
  intro _
  show (Oy Hy c x ((n + 1 : Nat) : Int)).sat _
  unfold Oy
  unfold O0 at hR
  cases hm : decide (((gk x).length : Int) > 4096) with
  | true => rw [hm] at hR; exact ⟨trivial, fun _ => hR⟩
  | false =>
   rw [hm] at hR
   simp only [cond_false] at hR ⊢
   rw [decide_eq_true (show ((n + 1 : Nat) : Int) > 0 by omega), cond_true]
   cases hs : C0 (stG x.1) with
   | true => rw [hs] at hR; exact ⟨Ch _, fun _ => hR⟩
   | false =>
    rw [hs] at hR
    simp only [Bool.not_false, cond_true] at hR ⊢
    have hk := of_decide_eq_false hm
    have hy : Hy x = some (tkF (ctG x.1) (gs x)) := by
     unfold Hy
     rw [show Z8 x = true by
      unfold Z8 Z7 Ou
      simp only [Bool.and_eq_true, decide_eq_true_eq]
      exact ⟨⟨⟨E3.2 h, by omega⟩, hp⟩, by omega⟩]
     rfl
    cases ht : tkF (ctG x.1) (gs x) with
    | inr e => rw [ht] at hy hR; rw [Q2 hy]; exact ⟨trivial, fun _ => hR⟩
    | inl s =>
     rw [ht] at hy hR
     rw [Q1 hy, show W64 (((n + 1 : Nat) : Int) - 1) = (n : Int) by rw [show ((n + 1 : Nat) : Int) - 1 = (n : Int) by omega]; exact Bv (by omega) (by omega)]
     exact ⟨Ch _, Ag2 c n (xT x s) (by omega) (Ag1 h hp ht) hp hR⟩
theorem A6w {x : GB} {n : Int} (h : A6u x n = true) : OkGM x.1 ∧ (gmP x.1).length ≤ 1000 ∧ (0 ≤ n ∧ n ≤ 4000) := by
 unfold A6u at h
 simp only [Bool.and_eq_true, decide_eq_true_eq] at h
 exact ⟨E3.1 h.1, h.2.1, h.2.2⟩
theorem Bi3 : Ae Tryz.prog 177 A0w (B3c A6v) := A0v Afy 9 _ Tv Abr (fun e => by cases e <;> exact Nat.le_refl _) _ _ _ _ _ _ (fun g => Oy Hy (cpl g) (xpl g) (npl g)) (Bi2 Hy) fun g z _ hz => by
 unfold A6v at hz
 cases ho : A6u (xpl g) (npl g) with
 | false => rw [ho] at hz; cases hz
 | true =>
  rw [ho] at hz
  cases hz
  obtain ⟨h1, h2, h3⟩ := A6w ho
  refine ⟨Int.toNat (npl g) + 1, fun R hR => ?_⟩
  have := Ag2 (cpl g) (R := R) (Int.toNat (npl g)) (xpl g) (by omega) h1 h2 (by
   revert hR
   cases O0 (Int.toNat (npl g)) (xpl g) <;> exact id)
  rw [Int.toNat_of_nonneg h3.1] at this
  exact this
noncomputable def Be5 (Y : YP) : Ctx := Kj Tryz.prog Aio Ayk [((177, 0), B3c Y)] []
theorem Ayl : CtxOk (Be5 A6v) := D8 Ab Ap1 A30 (Ap (Av (by kernel_rfl)) (Ap (Av (by kernel_rfl)) (Ap (Av (by kernel_rfl)) (Ap (Fm (ds := [A0w]) (by kernel_rfl) ⟨Ec (k := 0) (by kernel_rfl) rfl Bi3, trivial⟩) (Ap (Av (by kernel_rfl)) (Ap (Av (by kernel_rfl)) (Ap (Av (by kernel_rfl)) (Ap (Av (by kernel_rfl)) (Ap (Av (by kernel_rfl)) (Ap (Av (by kernel_rfl)) (Ap (Av (by kernel_rfl)) (Ap (Av (by kernel_rfl)) (Ap (Av (by kernel_rfl)) (Ap (Av (by kernel_rfl)) (Ez))))))))))))))) (fun p hp => nomatch hp)
def Be6 (x : GB) : TkR := (stG x.1, gk x, 0, ())
def Be7 (y : Option (GB ⊕ Int)) : TTR := thY y zGB (fun e => bif e != 0 then lfT2 (Gt e) else .fail) fun x => lfT2 (Be6 x)
where lfT2 (r : TkR) : TTR := .leaf r
noncomputable def Aym (Y : YP) (g : TCT cGr) (s : TCT cSt) (n : Int) : TTR := szT g.1 (bif Ee g s != 0 then .leaf (Gt (Ee g s)) else bif decide (n < 0) then .leaf (Gt 3) else bif decide (n > 4000) then .leaf (Gt 3) else szT g.1 (neT (msT s) (acT (msT s) 48 (neT (osT s) (acT (osT s) 1 (.need (Gp [lkR 0]) (Be7 (Y (gT g s) n))))))))
theorem Ayn (Y : YP) (x : TCTs [cGr, cSt, cI]) : C4 (Be5 Y) 9 (.fn 37) (Ce [cGr, cSt, cI] x) Be 0 (Ft Tryz.prog [cSt, .sl cKn, cI]) = Aym Y x.1 x.2.1 x.2.2.1 := by kernel_rfl
theorem Ag3 {g : TCT cGr} {s : TCT cSt} {n : Int} (hs : (g.1.1.size : Int) ≤ As .i64) (h : StaOk g s) (hn : 0 ≤ n ∧ n ≤ 4000) : A6u (gT g s) n = true := by
 have a := Afc hs h
 have b := A6c a
 unfold A6u
 simp only [Bool.and_eq_true, decide_eq_true_eq]
 exact ⟨E3.2 b.1, b.2.2, hn⟩
def Aj1 : GB ⊕ Int → TkR
 | .inl x => Be6 x
 | .inr e => Gt e
def Ll (g : TCT cGr) (s : TCT cSt) (n : Int) : TkR := bif Ee g s != 0 then Gt (Ee g s) else bif decide (n < 0) || decide (n > 4000) then Gt 3 else Aj1 (O0 (Int.toNat n) (gT g s))
theorem Ag4 : ∀ (n : Nat) (x : GB) (e : Int), O0 n x = .inr e → e ≠ 0
 | 0, x, e, h => by
  unfold O0 at h
  cases hm : decide (((gk x).length : Int) > 4096) with
  | true => rw [hm] at h; cases h; decide
  | false => rw [hm] at h; cases h
 | n + 1, x, e, h => by
  unfold O0 at h
  cases hm : decide (((gk x).length : Int) > 4096) with
  | true => rw [hm] at h; cases h; decide
  | false =>
   rw [hm] at h
   cases hs : C0 (stG x.1) with
   | true => rw [hs] at h; cases h
   | false =>
    rw [hs] at h
    simp only [cond_false, Bool.not_false, cond_true] at h
    cases ht : tkF (ctG x.1) (gs x) with
    | inr e' => rw [ht] at h; cases h; exact A2p ht
    | inl s => rw [ht] at h; exact Ag4 n _ e h
abbrev Ag5 : PureT := B9 [cGr, cSt, cI] [cSt, .sl cKn, cI] (fun x => decide ((x.1.1.1.size : Int) ≤ As .i64)) (fun x => Rm (Ll x.1 x.2.1 x.2.2.1))
theorem Ayo {g : TCT cGr} {s : TCT cSt} {n : Int} (hs : (g.1.1.size : Int) ≤ As .i64) : (Aym A6v g s n).sat (fun y => y = Rm (Ll g s n)) := by
 unfold Aym Ll
 rw [Bz hs, Bz hs]
 cases h1 : Ee g s != 0 with
 | true => exact rfl
 | false =>
  have h := Ro (bne_eq_false_iff_eq.1 h1)
  have hn1 := h.n1
  have hn8 := h.n8
  have hm := h.m
  have ho := h.o
  simp only [cond_false]
  cases h2 : decide (n < 0) with
  | true => exact rfl
  | false =>
   cases h3 : decide (n > 4000) with
   | true => exact rfl
   | false =>
    have a2 := of_decide_eq_false h2
    have a3 := of_decide_eq_false h3
    simp only [cond_false, Bool.or_false]
    rw [Rn (by omega), Hz (by omega) (by decide), Rn (by omega), Hz (by omega) (by decide)]
    refine ⟨Ch _, ?_⟩
    have hy : A6v (gT g s) n = some (O0 (Int.toNat n) (gT g s)) := by
     unfold A6v
     rw [Ag3 hs h ⟨by omega, by omega⟩]; rfl
    unfold Be7
    cases hf : O0 (Int.toNat n) (gT g s) with
    | inl x => rw [hf] at hy; rw [Q1 hy]; exact rfl
    | inr e => rw [hf] at hy; rw [Q2 hy, show (e != 0) = true from bne_iff_ne.2 (Ag4 _ _ _ hf)]; exact rfl
theorem Ayp : A7 Tryz.prog 37 Ag5 := B6 Ayl 9 (fun x => Aym A6v x.1 x.2.1 x.2.2.1) (Ayn A6v) fun _ hok _ => Ayo (of_decide_eq_true hok)
def Bi4 : List BK := [(2, 3, [.d cI]), (3, 63, [.o 24 cPt]), (7, 124, [.f 87 [] [.p 3 0 0 0, .p 2 0 0 0]]), (8, 38, kSn), (9, 43, [.o 57 cKn]), (26, 99, kGo 9), (27, 91, [.p 26 0 0 0]), (28, 44, [.d cI]), (29, 91, [.p 26 0 0 0]), (30, 3, [.d cI])]
def Bi5 : List BK := [(3, 63, [.o 24 cPt]), (8, 38, kSn), (9, 43, [.o 57 cKn]), (26, 99, kGo 9), (27, 91, [.p 26 0 0 0]), (28, 44, [.d cI])]
def Bi6 : List BK := [(8, 38, kSn), (28, 44, [.d cI])]
noncomputable def Rp : Lay2 := { keys := [0, 1, 2], ks := [.y 32, .p 29 0 0 0, .p 30 0 0 0], bs := Bi4, ls := [lkR 1], n := 25, nx := 1000, marks := [], ds := [31] }
noncomputable def Be8 : Lay2 := { keys := [], ks := [], bs := Bi5, ls := [lkR 1], n := 25, nx := 1000, marks := [], ds := [31] }
def Be9 : Lay2 := { keys := [], ks := [], bs := Bi6, ls := [], n := 25, nx := 1000, marks := [], ds := [31] }
noncomputable def Abt : XE → Lay2 := fun e => match e with | .panic _ => Be9 | _ => Be8
abbrev Fh : Type := List (TCT cPt)
structure CR where
 a : SKTs kSn
 e : Int
 b : Int
def ctr (g : Rp.T) : CR := ⟨g.2.1.2.2.2.1, g.2.1.2.2.2.2.2.2.2.1.1, g.2.1.1.1⟩
def xtr (g : Rp.T) : GB := (g.2.1.2.2.2.2.2.1, (g.2.1.2.2.2.2.1.1, ()), ())
def ttr (g : Rp.T) : Fh := g.2.1.2.1.1
def ntr (g : Rp.T) : Int := g.2.1.2.2.2.2.2.2.2.2.2.1.1
noncomputable def B3d (c : CR) (x : GB) (t : Fh) (n : Int) : Rp.T := (((), (), (), ()), ((c.b, ()), (t, ()), (((), ((), (), ())), ()), c.a, (x.2.1.1, ()), x.1, ((), ()), (c.e, ()), ((), ()), (n, ()), ()), lsP 1)
noncomputable def Ar5 (c : CR) (r : GB × Fh) : Be8.T := ((), ((r.2, ()), c.a, (r.1.2.1.1, ()), r.1.1, ((), ()), (c.e, ()), ()), lsP 1)
def Ar6 (c : CR) : Be9.T := ((), (c.a, (c.e, ()), ()), ())
abbrev TTr := Tree (Rp.T ⊕ Df Abt)
noncomputable def B3e (c : CR) (r : GB × Fh) : TTr := .need (Gp [lkR 1]) (.leaf (.inr ⟨.exit 0, Ar5 c r⟩))
noncomputable def B3f (c : CR) (e : Int) : TTr := .need (Gp []) (.leaf (.inr ⟨.panic (.ifc 44 (.int .i64 e)), Ar6 c⟩))
def atP (x : GB) (b : Int) : TCT cPt := ((Ai (gmM x.1) (Int.toNat b)).1.1, (Ai (gmM x.1) (Int.toNat b)).1.2.1, ())
def apP {β : Type} (t : Fh) (p : TCT cPt) (k : Tree β) : Tree β := bif Ex t [p] 16 then k else .fail
theorem Ar7 {β : Type} {t : Fh} {p : TCT cPt} {k : Tree β} (h : t.length ≤ 10000) : apP t p k = k := by
 unfold apP
 rw [Gi (by simp; omega) (by decide)]; rfl
def inM {β : Type} (x : GB) (b : Int) (k : Tree β) : Tree β := inN (gmM x.1).length b (bif decide (Int.toNat b < (gmM x.1).length) then k else .fail)
theorem Ar8 {β : Type} {x : GB} {b : Int} {k : Tree β} {n : Nat} (h : 0 ≤ b ∧ b < (n : Int)) (hl : (gmM x.1).length = n) : inM x b k = k := by
 unfold inM
 rw [Ci (by rw [hl]; exact h), decide_eq_true (show Int.toNat b < (gmM x.1).length by omega)]; rfl
noncomputable def Oz (Y : Y2) (c : CR) (x : GB) (t : Fh) (n : Int) : TTr := bif decide (((gk x).length : Int) > 4096) then B3f c 6 else inM x c.b (apP t (atP x c.b) (bif decide (n > 0) then bif !C0 (stG x.1) then thY (Y x) z2 (B3f c) fun s => .need (Gp [lkR 1]) (.leaf (.inl (B3d c (xT x s) (t ++ [atP x c.b]) (W64 (n - 1))))) else B3e c (x, t ++ [atP x c.b]) else B3e c (x, t ++ [atP x c.b])))
theorem Bi7 (Y : Y2) (g : Rp.T) : evC Tryz.prog (C4 (Abs Y) 9) (Abs Y).pures 177 (Abs Y).u (fun _ => none) A0w (Rp.of g) (Fq Rp Abt) = Oz Y (ctr g) (xtr g) (ttr g) (ntr g) := by kernel_rfl
def P0 (b : Int) : Nat → GB → Fh → (GB × Fh) ⊕ Int
 | 0, x, t => bif decide (((gk x).length : Int) > 4096) then .inr 6 else .inl (x, t ++ [atP x b])
 | n + 1, x, t => bif decide (((gk x).length : Int) > 4096) then .inr 6 else bif !C0 (stG x.1) then match tkF (ctG x.1) (gs x) with
  | .inl s => P0 b n (xT x s) (t ++ [atP x b])
  | .inr e => .inr e
  else .inl (x, t ++ [atP x b])
abbrev YT : Type := GB → Int → Int → Fh → Option ((GB × Fh) ⊕ Int)
def A6x (x : GB) (b n : Int) (t : Fh) : Option ((GB × Fh) ⊕ Int) := bif A6u x n && (decide (0 ≤ b ∧ b < (nBx x.1 : Int)) && decide (t.length ≤ 5000)) then some (P0 b (Int.toNat n) x t) else none
noncomputable def B7r (Y : YT) : Rp.T → Tree (Df Abt) := Afx 44 .i64 (fun g => Y (xtr g) (ctr g).b (ntr g) (ttr g)) (fun g => Ar5 (ctr g)) (fun g _ => Ar6 (ctr g)) (zGB, [])
noncomputable def B3g (Y : YT) : St → Tree (XE × St) := Fr Rp Abt (B7r Y)
theorem Ag6 (c : CR) {R : Df Abt → Prop} : ∀ (n : Nat) (x : GB) (t : Fh), n ≤ 4000 → OkGM x.1 → (gmP x.1).length ≤ 1000 → (0 ≤ c.b ∧ c.b < (nBx x.1 : Int)) → t.length + n ≤ 10000 → R (match P0 c.b n x t with
  | .inl r => ⟨.exit 0, Ar5 c r⟩
  | .inr e => ⟨.panic (.ifc 44 (.int .i64 e)), Ar6 c⟩) → Td Rp Abt (fun g => Oz Hy (ctr g) (xtr g) (ttr g) (ntr g)) R (n + 1) (B3d c x t n)
 | 0, x, t, _, h, hp, hb, ht, hR => by
  intro _
  show (Oz Hy c x t ((0 : Nat) : Int)).sat _
  unfold Oz
  unfold P0 at hR
  rw [Ar8 hb h.ms, Ar7 (by omega)]
  cases hm : decide (((gk x).length : Int) > 4096) with
  | true => rw [hm] at hR; exact ⟨trivial, fun _ => hR⟩
  | false =>
   rw [hm] at hR
   exact ⟨Ch _, fun _ => hR⟩
 | n + 1, x, t, hn, h, hp, hb, ht, hR => by
  intro _
  show (Oz Hy c x t ((n + 1 : Nat) : Int)).sat _
  unfold Oz
  unfold P0 at hR
  rw [Ar8 hb h.ms, Ar7 (by omega)]
  cases hm : decide (((gk x).length : Int) > 4096) with
  | true => rw [hm] at hR; exact ⟨trivial, fun _ => hR⟩
  | false =>
   rw [hm] at hR
   simp only [cond_false] at hR ⊢
   rw [decide_eq_true (show ((n + 1 : Nat) : Int) > 0 by omega), cond_true]
   cases hs : C0 (stG x.1) with
   | true => rw [hs] at hR; exact ⟨Ch _, fun _ => hR⟩
   | false =>
    rw [hs] at hR
    simp only [Bool.not_false, cond_true] at hR ⊢
    have hk := of_decide_eq_false hm
    have hy : Hy x = some (tkF (ctG x.1) (gs x)) := by
     unfold Hy
     rw [show Z8 x = true by
      unfold Z8 Z7 Ou
      simp only [Bool.and_eq_true, decide_eq_true_eq]
      exact ⟨⟨⟨E3.2 h, by omega⟩, hp⟩, by omega⟩]
     rfl
    cases hf : tkF (ctG x.1) (gs x) with
    | inr e => rw [hf] at hy hR; rw [Q2 hy]; exact ⟨trivial, fun _ => hR⟩
    | inl s =>
     rw [hf] at hy hR
     rw [Q1 hy, show W64 (((n + 1 : Nat) : Int) - 1) = (n : Int) by rw [show ((n + 1 : Nat) : Int) - 1 = (n : Int) by omega]; exact Bv (by omega) (by omega)]
     exact ⟨Ch _, Ag6 c n (xT x s) (t ++ [atP x c.b]) (by omega) (Ag1 h hp hf) hp hb (by rw [List.length_append, List.length_singleton]; omega) hR⟩
theorem Bi8 : Ae Tryz.prog 177 A0w (B3g A6x) := A0v Afy 9 _ Rp Abt (fun e => by cases e <;> exact Nat.le_refl _) _ _ _ _ _ _ (fun g => Oz Hy (ctr g) (xtr g) (ttr g) (ntr g)) (Bi7 Hy) fun g z _ hz => by
 unfold A6x at hz
 cases ho : A6u (xtr g) (ntr g) && (decide (0 ≤ (ctr g).b ∧ (ctr g).b < (nBx (xtr g).1 : Int)) && decide ((ttr g).length ≤ 5000)) with
 | false => rw [ho] at hz; cases hz
 | true =>
  rw [ho] at hz
  cases hz
  simp only [Bool.and_eq_true, decide_eq_true_eq] at ho
  obtain ⟨h1, h2, h3⟩ := A6w ho.1
  refine ⟨Int.toNat (ntr g) + 1, fun R hR => ?_⟩
  have := Ag6 (ctr g) (R := R) (Int.toNat (ntr g)) (xtr g) (ttr g) (by omega) h1 h2 ho.2.1 (by omega) (by
   revert hR
   cases P0 (ctr g).b (Int.toNat (ntr g)) (xtr g) (ttr g) <;> exact id)
  rw [Int.toNat_of_nonneg h3.1] at this
  exact this
noncomputable def Bea (Y : YT) : Ctx := Kj Tryz.prog Aio Ayk [((177, 0), B3g Y)] []
theorem Ayq : CtxOk (Bea A6x) := D8 Ab Ap1 A30 (Ap (Av (by kernel_rfl)) (Ap (Av (by kernel_rfl)) (Ap (Av (by kernel_rfl)) (Ap (Fm (ds := [A0w]) (by kernel_rfl) ⟨Ec (k := 0) (by kernel_rfl) rfl Bi8, trivial⟩) (Ap (Av (by kernel_rfl)) (Ap (Av (by kernel_rfl)) (Ap (Av (by kernel_rfl)) (Ap (Av (by kernel_rfl)) (Ap (Av (by kernel_rfl)) (Ap (Av (by kernel_rfl)) (Ap (Av (by kernel_rfl)) (Ap (Av (by kernel_rfl)) (Ap (Av (by kernel_rfl)) (Ap (Av (by kernel_rfl)) Ez)))))))))))))) (fun p hp => nomatch hp)
abbrev TrR : Type := TCTs [.sl cPt, cI]
abbrev Ayr := Tree TrR
def M5 (e : Int) : Ayr := .leaf ([], e, ())
def Beb (y : Option ((GB × Fh) ⊕ Int)) : Ayr := thY y (zGB, []) (fun e => bif e != 0 then bif e != 0 then M5 e else .fail else .fail) fun r => .leaf (r.2, 0, ())
noncomputable def Ays (Y : YT) (g : TCT cGr) (s : TCT cSt) (b n : Int) : Ayr := szT g.1 (bif Ee g s != 0 then M5 (Ee g s) else bif decide (b < 0) then M5 3 else bif decide (b ≥ ((A3 g).length : Int)) then M5 3 else bif decide (n < 0) then M5 3 else bif decide (n > 4000) then M5 3 else szT g.1 (neT (msT s) (acT (msT s) 48 (neT (osT s) (acT (osT s) 1 (.need (Gp [lkR 1]) (Beb (Y (gT g s) b n []))))))))
theorem Ayt (Y : YT) (x : TCTs [cGr, cSt, cI, cI]) : C4 (Bea Y) 9 (.fn 39) (Ce [cGr, cSt, cI, cI] x) Be 0 (Ft Tryz.prog [.sl cPt, cI]) = Ays Y x.1 x.2.1 x.2.2.1 x.2.2.2.1 := by kernel_rfl
def Ar9 : (GB × Fh) ⊕ Int → TrR
 | .inl r => (r.2, 0, ())
 | .inr e => ([], e, ())
def I2 (g : TCT cGr) (s : TCT cSt) (b n : Int) : TrR := bif Ee g s != 0 then ([], Ee g s, ()) else bif decide (b < 0) || (decide (b ≥ ((A3 g).length : Int)) || (decide (n < 0) || decide (n > 4000))) then ([], 3, ()) else Ar9 (P0 b (Int.toNat n) (gT g s) [])
theorem Ag7 {b : Int} : ∀ (n : Nat) (x : GB) (t : Fh) (e : Int), P0 b n x t = .inr e → e ≠ 0
 | 0, x, t, e, h => by
  unfold P0 at h
  cases hm : decide (((gk x).length : Int) > 4096) with
  | true => rw [hm] at h; cases h; decide
  | false => rw [hm] at h; cases h
 | n + 1, x, t, e, h => by
  unfold P0 at h
  cases hm : decide (((gk x).length : Int) > 4096) with
  | true => rw [hm] at h; cases h; decide
  | false =>
   rw [hm] at h
   cases hs : C0 (stG x.1) with
   | true => rw [hs] at h; cases h
   | false =>
    rw [hs] at h
    simp only [cond_false, Bool.not_false, cond_true] at h
    cases ht : tkF (ctG x.1) (gs x) with
    | inr e' => rw [ht] at h; cases h; exact A2p ht
    | inl s => rw [ht] at h; exact Ag7 n _ _ e h
abbrev Ag8 (r : TrR) : TrR := (r.1, r.2.1, ())
abbrev A6y : PureT := B9 [cGr, cSt, cI, cI] [.sl cPt, cI] (fun x => decide ((x.1.1.1.size : Int) ≤ As .i64)) (fun x => Ag8 (I2 x.1 x.2.1 x.2.2.1 x.2.2.2.1))
theorem Ayu {g : TCT cGr} {s : TCT cSt} {b n : Int} (hs : (g.1.1.size : Int) ≤ As .i64) : (Ays A6x g s b n).sat (fun y => y = Ag8 (I2 g s b n)) := by
 unfold Ays I2
 rw [Bz hs, Bz hs]
 cases h1 : Ee g s != 0 with
 | true => exact rfl
 | false =>
  have h := Ro (bne_eq_false_iff_eq.1 h1)
  have hn1 := h.n1
  have hn8 := h.n8
  have hm := h.m
  have ho := h.o
  simp only [cond_false]
  cases h4 : decide (b < 0) with
  | true => exact rfl
  | false =>
   cases h5 : decide (b ≥ ((A3 g).length : Int)) with
   | true => exact rfl
   | false =>
    cases h2 : decide (n < 0) with
    | true => exact rfl
    | false =>
     cases h3 : decide (n > 4000) with
     | true => exact rfl
     | false =>
      have a2 := of_decide_eq_false h2
      have a3 := of_decide_eq_false h3
      have a4 := of_decide_eq_false h4
      have a5 := of_decide_eq_false h5
      simp only [cond_false, Bool.or_false]
      rw [Rn (by omega), Hz (by omega) (by decide), Rn (by omega), Hz (by omega) (by decide)]
      refine ⟨Ch _, ?_⟩
      have hy : A6x (gT g s) b n [] = some (P0 b (Int.toNat n) (gT g s) []) := by
       unfold A6x
       rw [Ag3 hs h ⟨by omega, by omega⟩, Bool.true_and, decide_eq_true (show 0 ≤ b ∧ b < (nBx (gT g s).1 : Int) from ⟨by omega, by show b < ((A3 g).length : Int); omega⟩)]
       rfl
      unfold Beb
      cases hf : P0 b (Int.toNat n) (gT g s) [] with
      | inl x => rw [hf] at hy; rw [Q1 hy]; exact rfl
      | inr e => rw [hf] at hy; rw [Q2 hy, show (e != 0) = true from bne_iff_ne.2 (Ag7 _ _ _ _ hf)]; exact rfl
theorem Ara : A7 Tryz.prog 39 A6y := B6 Ayq 9 (fun x => Ays A6x x.1 x.2.1 x.2.2.1 x.2.2.2.1) (Ayt A6x) fun _ hok _ => Ayu (of_decide_eq_true hok)
end St
end V
end Go.Proofs.YtkiaifmbbnnliaaGreat
