import Derived.Test.YtkiaifmbbnnliaaGreatCq
namespace Go.Proofs.YtkiaifmbbnnliaaGreat
open Go.RowKit
namespace V
def finY2 {L : Lay2} {E : XE → Lay2} {A : Type} (t : TypeId) (k : IntKind) (Y : L.T → Option (A ⊕ Int)) (mk : L.T → A → (E (.exit 0)).T) (pn : L.T → (n : Int) → (E (.panic (.ifc t (.int k n)))).T) (d : A) (g : L.T) : Tree (Left2 E) :=
  .br (isL (Y g)) (.leaf ⟨.exit 0, mk g (gL d (Y g))⟩) (.br (isR (Y g)) (.leaf ⟨.panic (.ifc t (.int k (gR 0 (Y g)))), pn g (gR 0 (Y g))⟩) .fail)
def resY2 {L : Lay2} {E : XE → Lay2} {A : Type} (t : TypeId) (k : IntKind) (mk : L.T → A → (E (.exit 0)).T) (pn : L.T → (n : Int) → (E (.panic (.ifc t (.int k n)))).T) (g : L.T) : A ⊕ Int → Left2 E
  | .inl a => ⟨.exit 0, mk g a⟩
  | .inr e => ⟨.panic (.ifc t (.int k e)), pn g e⟩
theorem loopOk_Y2 {X : Ctx} (hX : CtxOk X) (m : Nat) (fn : FuncId) {c : Code} (L : Lay2) (E : XE → Lay2) (hE : ∀ e, L.nx ≤ (E e).nx) {A : Type} (t : TypeId) (k : IntKind) (Y : L.T → Option (A ⊕ Int)) (mk : L.T → A → (E (.exit 0)).T) (pn : L.T → (n : Int) → (E (.panic (.ifc t (.int k n)))).T) (d : A) (step : L.T → Tree (L.T ⊕ Left2 E))
    (hstep : ∀ g, evC X.P (evFn X m) X.pures fn X.u (fun _ => none) c (L.of g) (stepOut2 L E) = step g)
    (hfin : ∀ g z, L.WF g → Y g = some z → ∃ n, ∀ R : Left2 E → Prop, R (resY2 t k mk pn g z) → Rnds2 L E step R n g) : LoopOk X.P fn c (loopSum2 L E (finY2 t k Y mk pn d)) := by
  refine loopOk_of2 hX m fn (fun _ => none) (fun _ _ f h => by simp at h) L E hE (finY2 t k Y mk pn d) step hstep ?_
  intro g R hw hf
  obtain ⟨h1, h2⟩ := hf
  cases hY : Y g with
  | none =>
    rw [hY] at h2
    exact ((h2 rfl).2 rfl).elim
  | some z =>
    obtain ⟨n, hn⟩ := hfin g z hw hY
    refine ⟨n, hn R ?_⟩
    rw [hY] at h1 h2
    cases z with
    | inl a => exact h1 rfl
    | inr e => exact (h2 rfl).1 rfl
namespace St
theorem is_srun : FnIs Tryz.prog (83, Tryz.f83) := ⟨Tryz.func83, by kernel_rfl, by kernel_rfl⟩
theorem is_srun2 : FnIs Tryz.prog (145, Tryz.f145) := ⟨Tryz.func145, by kernel_rfl, by kernel_rfl⟩
theorem is_sticks : FnIs Tryz.prog (146, Tryz.f146) := ⟨Tryz.func146, by kernel_rfl, by kernel_rfl⟩
theorem is_sticks1 : FnIs Tryz.prog (177, Tryz.f177) := ⟨Tryz.func177, by kernel_rfl, by kernel_rfl⟩
theorem is_sPlay : FnIs Tryz.prog (37, Tryz.f37) := ⟨Tryz.func37, by kernel_rfl, by kernel_rfl⟩
theorem is_sPlay1 : FnIs Tryz.prog (84, Tryz.f84) := ⟨Tryz.func84, by kernel_rfl, by kernel_rfl⟩
theorem is_sTrack : FnIs Tryz.prog (39, Tryz.f39) := ⟨Tryz.func39, by kernel_rfl, by kernel_rfl⟩
theorem is_sTrack1 : FnIs Tryz.prog (87, Tryz.f87) := ⟨Tryz.func87, by kernel_rfl, by kernel_rfl⟩
noncomputable def fnRn : List (Nat × Func) := [(83, Tryz.f83), (145, Tryz.f145), (146, Tryz.f146), (177, Tryz.f177), (52, Tryz.f52), (54, Tryz.f54), (108, Tryz.f108), (57, Tryz.f57), (106, Tryz.f106), (107, Tryz.f107), (37, Tryz.f37), (84, Tryz.f84), (39, Tryz.f39), (87, Tryz.f87)]
theorem fnRn_ok : ∀ p ∈ fnRn, FnIs Tryz.prog p := fns_cons is_srun (fns_cons is_srun2 (fns_cons is_sticks (fns_cons is_sticks1 (fns_cons is_newGame (fns_cons is_sTry (fns_cons is_sTry1 (fns_cons is_must (fns_cons is_clMot (fns_cons is_clBool (fns_cons is_sPlay (fns_cons is_sPlay1 (fns_cons is_sTrack (fns_cons is_sTrack1 fns_nil)))))))))))))
noncomputable def lb_tt : Code := (loopsOf (bodyOf Tryz.f177)).getD 0 .skip
abbrev kGo (k : Nat) : List SK := [.d .s, .d cI, .d cI, .d cI, .d (.sl cHoop), .d cI, .d cI, .d cI, .d cI, .d cI, .d (.sl cCell), .d (.sl cBall), .d cI, .d cI, .d (.sl cDisc), .o 62 cMot, .o 4 .b, .d cI, .d cI, .d cI, .d cI, .f 144 [] [.p k 0 0 0]]
abbrev kSn : List SK := [.o 62 cMot, .o 4 .b, .d cI, .d cI, .d cI]
noncomputable def lkR (o : Nat) : LK := { id := o + 31, keys := [2, 3], ks := [.p (o + 8) 0 0 0, .p (o + 6) 0 0 0], n := 16, fn := 145, params := [8], assign := (rangeAt Tryz.f145 0).1, body := (rangeAt Tryz.f145 0).2, df := o + 30, st := some 0 }
def bsPl : List BK := [(2, 38, kSn), (6, 124, [.f 84 [] []]), (7, 38, kSn), (8, 43, [.o 57 cKn]), (25, 99, kGo 8), (26, 91, [.p 25 0 0 0]), (27, 44, [.d cI]), (28, 91, [.p 25 0 0 0]), (29, 3, [.d cI])]
def bqPl : List BK := [(2, 38, kSn), (7, 38, kSn), (8, 43, [.o 57 cKn]), (25, 99, kGo 8), (26, 91, [.p 25 0 0 0]), (27, 44, [.d cI])]
def bpPl : List BK := [(2, 38, kSn), (7, 38, kSn), (27, 44, [.d cI])]
noncomputable def L_pl : Lay2 := { keys := [0, 1, 2], ks := [.y 31, .p 28 0 0 0, .p 29 0 0 0], bs := bsPl, ls := [lkR 0], n := 25, nx := 1000, marks := [], ds := [30] }
noncomputable def R_pl : Lay2 := { keys := [], ks := [], bs := bqPl, ls := [lkR 0], n := 25, nx := 1000, marks := [], ds := [30] }
def P_pl : Lay2 := { keys := [], ks := [], bs := bpPl, ls := [], n := 25, nx := 1000, marks := [], ds := [30] }
noncomputable def E_pl : XE → Lay2 := fun e => match e with | .panic _ => P_pl | _ => R_pl
noncomputable def X_pl (Y : Y2) : Ctx := ctxS Tryz.prog plTk fnRn [] [(68, spYT 144 Y)]
theorem X_pl_ok : CtxOk (X_pl Y_ti) := ctxS_ok mixed puTk fnRn_ok no_loops4 (fun p hp => by
  rw [List.mem_singleton] at hp; subst hp; exact ⟨is_gtick.plain, sp_ti_r⟩)
noncomputable def lsP (o : Nat) : LTs [lkR o] := (((((), (), ()) : SKTs (lkR o).ks), ((() : Unit) : StT (lkR o).st)), ())
structure CP where
  a : SKTs kSn
  b : SKTs kSn
  e : Int
def cpl (g : L_pl.T) : CP := ⟨g.2.1.1, g.2.1.2.2.1, g.2.1.2.2.2.2.2.2.1.1⟩
def xpl (g : L_pl.T) : GB := (g.2.1.2.2.2.2.1, (g.2.1.2.2.2.1.1, ()), ())
def npl (g : L_pl.T) : Int := g.2.1.2.2.2.2.2.2.2.2.1.1
noncomputable def hd_pl (c : CP) (x : GB) (n : Int) : L_pl.T := (((), (), (), ()), (c.a, (((), ()), ()), c.b, (x.2.1.1, ()), x.1, ((), ()), (c.e, ()), ((), ()), (n, ()), ()), lsP 0)
noncomputable def mk_pl (c : CP) (x : GB) : R_pl.T := ((), (c.a, c.b, (x.2.1.1, ()), x.1, ((), ()), (c.e, ()), ()), lsP 0)
def mp_pl (c : CP) : P_pl.T := ((), (c.a, c.b, (c.e, ()), ()), ())
abbrev TPl := Tree (L_pl.T ⊕ Left2 E_pl)
noncomputable def ex_pl (c : CP) (x : GB) : TPl := .need (selfL [lkR 0]) (.leaf (.inr ⟨.exit 0, mk_pl c x⟩))
noncomputable def pn_pl (c : CP) (e : Int) : TPl := .need (selfL []) (.leaf (.inr ⟨.panic (.ifc 44 (.int .i64 e)), mp_pl c⟩))
def stG (m : GM) : TCT cSt := (gmM m, gmO m, gmW m, gmF m, gmT m, ())
noncomputable def st_pl' (Y : Y2) (c : CP) (x : GB) (n : Int) : TPl := bif decide (((gk x).length : Int) > 4096) then pn_pl c 6 else bif decide (n > 0) then bif !stillB (stG x.1) then thY (Y x) z2 (pn_pl c) fun s => .need (selfL [lkR 0]) (.leaf (.inl (hd_pl c (xT x s) (W64 (n - 1))))) else ex_pl c x else ex_pl c x
theorem e_pl (Y : Y2) (g : L_pl.T) : evC Tryz.prog (evFn (X_pl Y) 9) (X_pl Y).pures 177 (X_pl Y).u (fun _ => none) lb_tt (L_pl.of g) (stepOut2 L_pl E_pl) = st_pl' Y (cpl g) (xpl g) (npl g) := by kernel_rfl
def plRn : Nat → GB → GB ⊕ Int
  | 0, x => bif decide (((gk x).length : Int) > 4096) then .inr 6 else .inl x
  | n + 1, x => bif decide (((gk x).length : Int) > 4096) then .inr 6 else bif !stillB (stG x.1) then match tkF (ctG x.1) (gs x) with
    | .inl s => plRn n (xT x s)
    | .inr e => .inr e
    else .inl x
abbrev YP : Type := GB → Int → Option (GB ⊕ Int)
def okRn (x : GB) (n : Int) : Bool := okGM x.1 && (decide ((gmP x.1).length ≤ 1000) && decide (0 ≤ n ∧ n ≤ 4000))
def Y_pl (x : GB) (n : Int) : Option (GB ⊕ Int) := bif okRn x n then some (plRn (Int.toNat n) x) else none
def zGB : GB := (dflKs (kGm 0), ([], ()), ())
noncomputable def fin_pl (Y : YP) : L_pl.T → Tree (Left2 E_pl) := finY2 44 .i64 (fun g => Y (xpl g) (npl g)) (fun g => mk_pl (cpl g)) (fun g _ => mp_pl (cpl g)) zGB
noncomputable def sm_pl (Y : YP) : St → Tree (XE × St) := loopSum2 L_pl E_pl (fin_pl Y)
theorem slE_len {l : TCT cLawn} {os : List Bool} {w fl : Int} {i : Nat} {ms ms' : Mots} (h : slE l os w fl i ms = .inl ms') : ms'.length = ms.length := by
  unfold slE at h
  cases h1 : !rollB ms os i || flyB w fl i with
  | true => rw [h1] at h; cases h; rfl
  | false =>
    rw [h1] at h
    cases h2 : cellE l (getM ms i).1 != 0 with
    | true => rw [h2] at h; cases h
    | false =>
      rw [h2] at h
      cases h3 : (slwV l (getM ms i)).2.1 != 0 with
      | true => rw [h3] at h; cases h
      | false => rw [h3] at h; cases h; exact setA_len _ _ _
theorem tkF_len {k : CT} {s s' : S2} (hn : k.bl.length ≤ 8) (hp : k.ps.length ≤ 1000) (hm : s.1.length = k.bl.length) (ho : s.2.1.length = k.bl.length) (h : tkF k s = .inl s') : s'.1.length = k.bl.length ∧ s'.2.1.length = k.bl.length := by
  unfold tkF at h
  cases h0 : k.t == 4000 with
  | true => rw [h0] at h; cases h
  | false =>
    rw [h0] at h
    simp only [cond_false] at h
    cases h1 : foldN (slE k.l s.2.1 k.w k.fl) 0 k.bl.length s.1 with
    | inr e => rw [h1] at h; cases h
    | inl ms =>
      rw [h1] at h
      have a : ms.length = k.bl.length := foldN_inv (n := k.bl.length) (Inv := fun _ (s : Mots) => s.length = k.bl.length) (fun i s s' _ hl h => (slE_len h).trans hl) k.bl.length 0 _ _ (by omega) hm h1
      have h2 : foldN (tkE k) 0 16 (ms, s.2.1, s.2.2) = .inl s' := h
      have b : Inv2 k.bl.length (s.2.2.length + 16 * 8072) 0 s' := foldN_inv (n := 16) (Inv := fun i s2 => Inv2 k.bl.length (s.2.2.length + i * 8072) 0 s2) (fun i s s' hi hs h => tkE_inv (m := 16) hn hp i s s' hi hs h) 16 0 (ms, s.2.1, s.2.2) s' (by omega) ⟨a, ho, by show s.2.2.length ≤ s.2.2.length + 0 * 8072 + 0; omega⟩ h2
      exact ⟨b.m, b.o⟩
theorem okGM_xT {x : GB} {s : S2} (h : OkGM x.1) (hp : (gmP x.1).length ≤ 1000) (ht : tkF (ctG x.1) (gs x) = .inl s) : OkGM (xT x s).1 := by
  have a := tkF_len (k := ctG x.1) h.n hp h.ms h.os ht
  exact okGM_iff.1 (okGM_iff.2 ⟨h.sz, a.1, a.2, h.n⟩)
theorem rnds_pl (c : CP) {R : Left2 E_pl → Prop} : ∀ (n : Nat) (x : GB), n ≤ 4000 → OkGM x.1 → (gmP x.1).length ≤ 1000 → R (match plRn n x with
    | .inl x' => ⟨.exit 0, mk_pl c x'⟩
    | .inr e => ⟨.panic (.ifc 44 (.int .i64 e)), mp_pl c⟩) → Rnds2 L_pl E_pl (fun g => st_pl' Y_ti (cpl g) (xpl g) (npl g)) R (n + 1) (hd_pl c x n)
  | 0, x, _, h, hp, hR => by
    intro _
    show (st_pl' Y_ti c x ((0 : Nat) : Int)).sat _
    unfold st_pl'
    unfold plRn at hR
    cases hm : decide (((gk x).length : Int) > 4096) with
    | true => rw [hm] at hR; exact ⟨trivial, fun _ => hR⟩
    | false =>
      rw [hm] at hR
      exact ⟨selfL_ok _, fun _ => hR⟩
  | n + 1, x, hn, h, hp, hR => by
    intro _
    show (st_pl' Y_ti c x ((n + 1 : Nat) : Int)).sat _
    unfold st_pl'
    unfold plRn at hR
    cases hm : decide (((gk x).length : Int) > 4096) with
    | true => rw [hm] at hR; exact ⟨trivial, fun _ => hR⟩
    | false =>
      rw [hm] at hR
      simp only [cond_false] at hR ⊢
      rw [decide_eq_true (show ((n + 1 : Nat) : Int) > 0 by omega), cond_true]
      cases hs : stillB (stG x.1) with
      | true => rw [hs] at hR; exact ⟨selfL_ok _, fun _ => hR⟩
      | false =>
        rw [hs] at hR
        simp only [Bool.not_false, cond_true] at hR ⊢
        have hk := of_decide_eq_false hm
        have hy : Y_ti x = some (tkF (ctG x.1) (gs x)) := by
          unfold Y_ti
          rw [show okTk x = true by
            unfold okTk okGP okGB
            simp only [Bool.and_eq_true, decide_eq_true_eq]
            exact ⟨⟨⟨okGM_iff.2 h, by omega⟩, hp⟩, by omega⟩]
          rfl
        cases ht : tkF (ctG x.1) (gs x) with
        | inr e => rw [ht] at hy hR; rw [thY_r hy]; exact ⟨trivial, fun _ => hR⟩
        | inl s =>
          rw [ht] at hy hR
          rw [thY_l hy, show W64 (((n + 1 : Nat) : Int) - 1) = (n : Int) by rw [show ((n + 1 : Nat) : Int) - 1 = (n : Int) by omega]; exact W64_id (by omega) (by omega)]
          exact ⟨selfL_ok _, rnds_pl c n (xT x s) (by omega) (okGM_xT h hp ht) hp hR⟩
theorem okRn_iff {x : GB} {n : Int} (h : okRn x n = true) : OkGM x.1 ∧ (gmP x.1).length ≤ 1000 ∧ (0 ≤ n ∧ n ≤ 4000) := by
  unfold okRn at h
  simp only [Bool.and_eq_true, decide_eq_true_eq] at h
  exact ⟨okGM_iff.1 h.1, h.2.1, h.2.2⟩
theorem l_pl : LoopOk Tryz.prog 177 lb_tt (sm_pl Y_pl) := loopOk_Y2 X_pl_ok 9 _ L_pl E_pl (fun e => by cases e <;> exact Nat.le_refl _) _ _ _ _ _ _ (fun g => st_pl' Y_ti (cpl g) (xpl g) (npl g)) (e_pl Y_ti) fun g z _ hz => by
  unfold Y_pl at hz
  cases ho : okRn (xpl g) (npl g) with
  | false => rw [ho] at hz; cases hz
  | true =>
    rw [ho] at hz
    cases hz
    obtain ⟨h1, h2, h3⟩ := okRn_iff ho
    refine ⟨Int.toNat (npl g) + 1, fun R hR => ?_⟩
    have := rnds_pl (cpl g) (R := R) (Int.toNat (npl g)) (xpl g) (by omega) h1 h2 (by
      revert hR
      cases plRn (Int.toNat (npl g)) (xpl g) <;> exact id)
    rw [Int.toNat_of_nonneg h3.1] at this
    exact this
end St
end V
end Go.Proofs.YtkiaifmbbnnliaaGreat
