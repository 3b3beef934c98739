/- The law TurfRound: for all arguments it returns true. -/
import Derived.Test.YthgmpjljlpacgaaQk
namespace Go.Proofs.Ythgmpjljlpacgaa
open Go.RowKit
namespace V
theorem is_TurfRound : FnIs Try.prog (12, Try.f12) := ⟨Try.func12, by kernel_rfl, by kernel_rfl⟩
abbrev cSpot : TC := .st [.i .i16, .i .i16]
abbrev s_at : PureT := spec [cSpot, .i .u8] [cPt] (fun _ => true) (fun x => ((x.1.1 * sc x.2.1, x.1.2.1 * sc x.2.1, ()), ()))
theorem q_at : PureOk Try.prog 15 s_at := bridge p_at _ _ rfl (fun _ => rfl)
abbrev s_Lies : PureT := spec [cPt, cPt, cPt, cI] [cI, cI] (fun _ => true) (fun x => ((LsR x.1.1 x.1.2.1 x.2.1.1 x.2.1.2.1 x.2.2.1.1 x.2.2.1.2.1 x.2.2.2.1).1, (LsR x.1.1 x.1.2.1 x.2.1.1 x.2.1.2.1 x.2.2.1.1 x.2.2.1.2.1 x.2.2.2.1).2, ()))
theorem q_Lies : PureOk Try.prog 27 s_Lies := bridge p_Lies _ _ rfl (fun _ => rfl)
abbrev s_Cuts : PureT := spec [cPt, cPt, cDisc] [.b, cI] (fun _ => true) (fun x => ((CtR x.1.1 x.1.2.1 x.2.1.1 x.2.1.2.1 x.2.2.1.1.1 x.2.2.1.1.2.1 x.2.2.1.2.1).1, (CtR x.1.1 x.1.2.1 x.2.1.1 x.2.1.2.1 x.2.2.1.1.1 x.2.2.1.1.2.1 x.2.2.1.2.1).2, ()))
theorem q_Cuts : PureOk Try.prog 29 s_Cuts := bridge p_Cuts _ _ rfl (fun _ => rfl)
def bs_ro : List BK := [(9, 35, [.d cI, .d cI]), (10, 35, [.d cI, .d cI]), (13, 57, [.d cI, .d cI, .d cI])]
def L_ro : Lay := { keys := [11, 12, 13, 14, 18, 20, 21], ks := [.p 9 0 0 0, .p 10 0 0 0, .p 13 0 0 0, .d (.sl cPt), .d .b, .d cI, .d cI], bs := bs_ro, n := 186, nx := 1000, marks := [] }
def R_ro : Lay := { keys := [10], ks := [.d .b], bs := [], n := 186, nx := 1000, marks := [] }
def E_ro : XE → Lay := fun e => match e with | .ret => R_ro | _ => L_ro
noncomputable def lb_ro : Code := (loopsOf (bodyOf Try.f12)).getD 0 .skip
def plRo : List (Nat × PureT) := [(19, s_Square)]
theorem puRo : PuOk Try.prog plRo := puOk_cons is_Square.plain q_Square puOk_nil
structure RC where
  ax : Int
  ay : Int
  bx : Int
  bY : Int
  x : Int
  y : Int
  r : Int
  p : Bool
  n : Int
def Og (c : RC) (l : List (TCT cPt)) (i : Int) : L_ro.T := (((), (), (), l, c.p, c.n, i, ()), (c.ax, c.ay, ()), (c.bx, c.bY, ()), (c.x, c.y, c.r, ()), ())
def Or0 : R_ro.T := ((false, ()), ())
def rc (g : L_ro.T) : RC := ⟨g.2.1.1, g.2.1.2.1, g.2.2.1.1, g.2.2.1.2.1, g.2.2.2.1.1, g.2.2.2.1.2.1, g.2.2.2.1.2.2.1, g.1.2.2.2.2.1, g.1.2.2.2.2.2.1⟩
def sqP (p : TCT cPt) (x y : Int) : Int × Int := SqR p.1 p.2.1 x y
def st_ro (c : RC) (l : List (TCT cPt)) (i : Int) : Tree (L_ro.T ⊕ Left' E_ro) :=
  bif decide (i < (l.length : Int)) then bif decide (0 ≤ i ∧ i < (l.length : Int)) then
    bif (sqP (ptAt l i) c.x c.y).2 != 0 then .leaf (.inr ⟨.ret, Or0⟩) else
    bif decide ((sqP (ptAt l i) c.x c.y).1 > W64 (c.r * c.r)) then .leaf (.inr ⟨.ret, Or0⟩) else
    bif decide (c.n > 0) then bif decide ((sqP (ptAt l i) c.x c.y).1 < W64 (c.n * c.n)) then .leaf (.inr ⟨.ret, Or0⟩) else .leaf (.inl (Og c l (W64 (i + 1)))) else .leaf (.inl (Og c l (W64 (i + 1))))
  else .fail else .leaf (.inr ⟨.exit 0, Og c l i⟩)
def okRo (c : RC) (l : List (TCT cPt)) (i : Int) : Prop := i = 0 ∧ l.length ≤ 1000 ∧ ∀ k, k < l.length →
  (sqP (getA l k (dflt cPt)) c.x c.y).2 = 0 ∧ (sqP (getA l k (dflt cPt)) c.x c.y).1 ≤ W64 (c.r * c.r) ∧ (0 < c.n → W64 (c.n * c.n) ≤ (sqP (getA l k (dflt cPt)) c.x c.y).1)
def fin_ro (g : L_ro.T) : Tree (Left' E_ro) := .need (okRo (rc g) g.1.2.2.2.1 g.1.2.2.2.2.2.2.1) (.leaf ⟨.exit 0, Og (rc g) g.1.2.2.2.1 (g.1.2.2.2.1.length : Int)⟩)
theorem rnds_ro {step : L_ro.T → Tree (L_ro.T ⊕ Left' E_ro)} (hs : ∀ c l i, step (Og c l i) = st_ro c l i) (R : Left' E_ro → Prop) (c : RC) (l : List (TCT cPt)) (hl : okRo c l 0) (f : Nat) :
    ∀ (i : Nat), i + f = l.length → R ⟨.exit 0, Og c l (l.length : Int)⟩ → Rnds L_ro E_ro step R (f + 1) (Og c l (i : Int)) := by
  obtain ⟨_, hlen, hk⟩ := hl
  induction f with
  | zero =>
    intro i hi h1
    have e : i = l.length := by omega
    subst e
    intro _
    rw [hs]
    unfold st_ro
    rw [decide_eq_false (show ¬ (l.length : Int) < (l.length : Int) by omega)]
    exact fun _ => h1
  | succ f ih =>
    intro i hi h1
    intro _
    rw [hs]
    unfold st_ro
    rw [decide_eq_true (show (i : Int) < (l.length : Int) by omega), decide_eq_true (show 0 ≤ (i : Int) ∧ (i : Int) < (l.length : Int) by omega), show W64 ((i : Int) + 1) = ((i + 1 : Nat) : Int) from (wrap_id (by omega) (by omega)).trans rfl,
      show ptAt l (i : Int) = getA l i (dflt cPt) by unfold ptAt; rw [Int.toNat_natCast]]
    obtain ⟨k1, k2, k3⟩ := hk i (by omega)
    have := ih (i + 1) (by omega) h1
    rw [k1, decide_eq_false (show ¬ (sqP (getA l i (dflt cPt)) c.x c.y).1 > W64 (c.r * c.r) by omega)]
    by_cases hn : c.n > 0
    · rw [decide_eq_true hn, decide_eq_false (show ¬ (sqP (getA l i (dflt cPt)) c.x c.y).1 < W64 (c.n * c.n) by have := k3 hn; omega)]
      exact this
    · rw [decide_eq_false hn]
      exact this
theorem l_ro : LoopOk Try.prog 12 lb_ro (loopSum L_ro E_ro fin_ro) := by
  refine loopOk_of (X := ctx Try.prog plRo []) (ctx_ok mixed puRo fns_nil) 7 12 (fun _ => none) (fun _ _ f h => by simp at h) L_ro E_ro (fun e => by cases e <;> exact Nat.le_refl _) fin_ro (fun g => st_ro (rc g) g.1.2.2.2.1 g.1.2.2.2.2.2.2.1) (fun g => by kernel_rfl) ?_
  intro g R _ hf
  obtain ⟨hok, h1⟩ := hf
  have e1 := hok.1
  have eg : g = Og (rc g) g.1.2.2.2.1 ((0 : Nat) : Int) := by
    rw [show ((0 : Nat) : Int) = g.1.2.2.2.2.2.2.1 from e1.symm]; rfl
  rw [e1] at hok
  refine ⟨g.1.2.2.2.1.length + 1, ?_⟩
  rw [eg]
  exact rnds_ro (fun _ _ _ => rfl) R (rc g) g.1.2.2.2.1 hok g.1.2.2.2.1.length 0 (by omega) h1
def plRu : List (Nat × PureT) := [(15, s_at), (30, s_Ring), (29, s_Cuts), (32, s_Passes), (19, s_Square), (27, s_Lies), (14, s_fine)]
theorem puRu : PuOk Try.prog plRu := puOk_cons is_at.plain q_at (puOk_cons is_Ring.plain q_Ring (puOk_cons is_Cuts.plain q_Cuts (puOk_cons is_Passes.plain q_Passes (puOk_cons is_Square.plain q_Square (puOk_cons is_Lies.plain q_Lies (puOk_cons is_fine.plain q_fine puOk_nil))))))
noncomputable def X_turfRound : Ctx := ctxL Try.prog plRu [(12, Try.f12)] [((12, 10), loopSum L_ro E_ro fin_ro)]
theorem X_turfRound_ok : CtxOk X_turfRound := ctxL_ok mixed puRu (fns_cons is_TurfRound fns_nil) (loops_one (by kernel_rfl) (by kernel_rfl) l_ro)
def nrW (r : Int) : Int := W64 (W64 ((W64 (15 * r)).tdiv 16) - 8)
def inW (r : Int) : Int := W64 (W64 (r - W64 (r.tdiv 8192)) - 3)
def p3 (ax ay bx bY px py r : Int) : P3 := ((ax, ay, ()), (bx, bY, ()), ((px, py, ()), r, ()), ())
def T_rest (ax ay bx bY px py r : Int) (v : Bool) (l : List (TCT cPt)) : Tree Unit :=
  .need (okRo ⟨ax, ay, bx, bY, px, py, r, v, inW r⟩ l 0) (bif decide (nrW r ≤ 0) then .leaf () else
    bif W64 (W64 ((SqR ax ay px py).2 + (SqR bx bY px py).2) + (LsR ax ay bx bY px py (nrW r)).2) != 0 then .fail else
    bif decide ((LsR ax ay bx bY px py (nrW r)).1 ≥ 0) then .leaf () else
    bif decide ((SqR ax ay px py).1 ≤ W64 (r * r)) then .leaf () else bif decide ((SqR bx bY px py).1 ≤ W64 (r * r)) then .leaf () else bif v then .leaf () else .fail)
def T_round (ax ay bx bY px py r : Int) : Tree Unit :=
  bif W64 (W64 ((RingR px py r).2.1 + (CtR ax ay bx bY px py r).2) + (PassR (p3 ax ay bx bY px py r)).2.1) != 0 then .fail else
  bif ((RingR px py r).1.length : Int) != 16 then .fail else
  bif (PassR (p3 ax ay bx bY px py r)).1 then bif !(CtR ax ay bx bY px py r).1 then .fail else T_rest ax ay bx bY px py r (PassR (p3 ax ay bx bY px py r)).1 (RingR px py r).1
  else T_rest ax ay bx bY px py r (PassR (p3 ax ay bx bY px py r)).1 (RingR px py r).1
abbrev cs_turfRound : List TC := [cSpot, cSpot, cSpot, .i .u8, .i .u16]
def TY_round (y : TCTs cs_turfRound) : Tree Unit := T_round (y.1.1 * sc y.2.2.2.1) (y.1.2.1 * sc y.2.2.2.1) (y.2.1.1 * sc y.2.2.2.1) (y.2.1.2.1 * sc y.2.2.2.1) (y.2.2.1.1 * sc y.2.2.2.1) (y.2.2.1.2.1 * sc y.2.2.2.1) (W64 (1 + W64 y.2.2.2.2.1))
theorem TY_round_eq (y : TCTs cs_turfRound) : evFn X_turfRound 8 (.fn 12) (encAs cs_turfRound y) noHeap 0 lawK = TY_round y := by kernel_rfl
/-! what the law asks -/
section
variable {ax ay bx bY px py r : Int} (hx : -2097152 ≤ px ∧ px ≤ 2097152) (hy : -2097152 ≤ py ∧ py ≤ 2097152) (h1 : 1 ≤ r) (h2 : r ≤ 65536)
include hx hy h1 h2
theorem ring_norm (i : Nat) (hi : i < 16) : norm (seen (ringW px py r) px py i) ≤ r * r ∧ (0 < inR r → inR r * inR r ≤ norm (seen (ringW px py r) px py i)) := by
  rw [seen_ring hx hy h1 h2 i hi]
  exact wh_norm (tb h1 h2) h1 i hi
theorem round_cut (h : passF ⟨ax, ay, bx, bY, false⟩ (ringW px py r) = true) : LsV ax ay bx bY px py r < 0 :=
  pass_cut (c := ⟨ax, ay, bx, bY, false⟩) (by omega) (by rw [ringW_len]; omega) (fun i hi => (ring_norm hx hy h1 h2 i (by rwa [ringW_len] at hi)).1) h
theorem round_near (hn : 0 < neR r) (h : LsV ax ay bx bY px py (neR r) < 0) : passF ⟨ax, ay, bx, bY, false⟩ (ringW px py r) = true := by
  refine near_pass (c := ⟨ax, ay, bx, bY, false⟩) (by rw [ringW_len]; omega) (fun i hi => ?_) h
  rw [ringW_len] at hi ⊢
  have := wh_side (tb h1 h2) hn i hi
  rw [← seen_ring hx hy h1 h2 i hi, ← seen_ring hx hy h1 h2 _ (Nat.mod_lt _ (by omega))] at this
  exact this
theorem round_ring {v : Bool} : okRo ⟨ax, ay, bx, bY, px, py, r, v, inR r⟩ (ringW px py r) 0 := by
  refine ⟨rfl, by rw [ringW_len]; omega, fun k hk => ?_⟩
  rw [ringW_len] at hk
  obtain ⟨n1, n2⟩ := ring_norm hx hy h1 h2 k hk
  have hf := fp_at (ring_fit hx hy h1 h2) (i := k) (by rw [ringW_len]; exact hk)
  have hp : fpt px py = true := by unfold fpt; exact decide_eq_true (by omega)
  have hr : r * r ≤ 65536 * 65536 := Int.mul_le_mul h2 h2 (by omega) (by omega)
  have hr0 : 0 ≤ r * r := self_nn r
  have hi1 : 0 < inR r → inR r * inR r ≤ 65536 * 65536 := fun h => Int.mul_le_mul (by unfold inR; omega) (by unfold inR; omega) (by omega) (by omega)
  have hi0 := self_nn (inR r)
  unfold seen norm at n1 n2
  simp only at n1 n2
  show (SqR (getA (ringW px py r) k (dflt cPt)).1 (getA (ringW px py r) k (dflt cPt)).2.1 px py).2 = 0 ∧ (SqR (getA (ringW px py r) k (dflt cPt)).1 (getA (ringW px py r) k (dflt cPt)).2.1 px py).1 ≤ W64 (r * r) ∧ (0 < inR r → W64 (inR r * inR r) ≤ (SqR (getA (ringW px py r) k (dflt cPt)).1 (getA (ringW px py r) k (dflt cPt)).2.1 px py).1)
  unfold fp at hf
  generalize (getA (ringW px py r) k (dflt cPt)).1 = a at *
  generalize (getA (ringW px py r) k (dflt cPt)).2.1 = b at *
  have e : ∀ a b : Int, sq a b px py = (a - px) * (a - px) + (b - py) * (b - py) := by intro a b; unfold sq; grind
  unfold SqR
  rw [hf, hp]
  refine ⟨rfl, ?_, fun h => ?_⟩
  · show sq a b px py ≤ _
    rw [e, show W64 (r * r) = r * r from wrap_id (by omega) (by omega)]
    exact n1
  · show _ ≤ sq a b px py
    have := hi1 h
    rw [e, show W64 (inR r * inR r) = inR r * inR r from wrap_id (by omega) (by omega)]
    exact n2 h
end
theorem nrW_eq {r : Int} (h1 : 1 ≤ r) (h2 : r ≤ 65536) : nrW r = neR r := by
  unfold nrW neR
  rw [show W64 (15 * r) = 15 * r from wrap_id (by omega) (by omega), Int.tdiv_eq_ediv_of_nonneg (by omega), show W64 (15 * r / 16) = 15 * r / 16 from wrap_id (by omega) (by omega), show W64 (15 * r / 16 - 8) = 15 * r / 16 - 8 from wrap_id (by omega) (by omega)]
theorem inW_eq {r : Int} (h1 : 1 ≤ r) (h2 : r ≤ 65536) : inW r = inR r := by
  unfold inW inR
  rw [Int.tdiv_eq_ediv_of_nonneg (by omega), show W64 (r / 8192) = r / 8192 from wrap_id (by omega) (by omega), show W64 (r - r / 8192) = r - r / 8192 from wrap_id (by omega) (by omega), show W64 (r - r / 8192 - 3) = r - r / 8192 - 3 from wrap_id (by omega) (by omega)]
theorem T_round_ok {ax ay bx bY px py r : Int} (s1 : smol ax) (s2 : smol ay) (s3 : smol bx) (s4 : smol bY) (s5 : smol px) (s6 : smol py) (h1 : 1 ≤ r) (h2 : r ≤ 65536) : (T_round ax ay bx bY px py r).sat (fun _ => True) := by
  have f1 := smol_fpt s1 s2
  have f2 := smol_fpt s3 s4
  have f3 := smol_fpt s5 s6
  have hx : -2097152 ≤ px ∧ px ≤ 2097152 := by unfold smol at s5; omega
  have hy : -2097152 ≤ py ∧ py ≤ 2097152 := by unfold smol at s6; omega
  have eR := ring_R hx hy h1 h2
  have hc : cdOk px py r = true := by unfold cdOk outB; rw [f3]; simp; omega
  have eC : CtR ax ay bx bY px py r = (decide (LsV ax ay bx bY px py r < 0), 0) := by unfold CtR; rw [f1, f2, hc]; rfl
  have eP : PassR (p3 ax ay bx bY px py r) = (passF ⟨ax, ay, bx, bY, false⟩ (ringW px py r), 0, ()) := by
    unfold PassR p3 rgOf pcOf
    rw [show fp (ax, ay, ()) = true from f1, show fp (bx, bY, ()) = true from f2]
    simp only [eR]
    rfl
  have eS1 : SqR ax ay px py = (sq ax ay px py, 0) := by unfold SqR; rw [f1, f3]; rfl
  have eS2 : SqR bx bY px py = (sq bx bY px py, 0) := by unfold SqR; rw [f2, f3]; rfl
  have hrest : ∀ v, v = passF ⟨ax, ay, bx, bY, false⟩ (ringW px py r) → (T_rest ax ay bx bY px py r v (ringW px py r)).sat (fun _ => True) := by
    intro v hv
    refine ⟨by rw [inW_eq h1 h2]; exact round_ring hx hy h1 h2, ?_⟩
    rw [nrW_eq h1 h2, eS1, eS2]
    by_cases hn : neR r ≤ 0
    · rw [decide_eq_true hn]; trivial
    · rw [decide_eq_false hn]
      have o : outB (neR r) 0 8388608 = false := by unfold outB; simp; unfold neR at *; omega
      have eL : LsR ax ay bx bY px py (neR r) = (LsV ax ay bx bY px py (neR r), 0) := by unfold LsR; rw [f1, f2, f3, o]; rfl
      rw [eL]
      show Tree.sat _ (bif decide (LsV ax ay bx bY px py (neR r) ≥ 0) then .leaf () else bif decide (sq ax ay px py ≤ W64 (r * r)) then .leaf () else bif decide (sq bx bY px py ≤ W64 (r * r)) then .leaf () else bif v then .leaf () else .fail)
      by_cases hl : LsV ax ay bx bY px py (neR r) ≥ 0
      · rw [decide_eq_true hl]; trivial
      · rw [decide_eq_false hl, hv, round_near hx hy h1 h2 (by omega) (by omega)]
        cases decide (sq ax ay px py ≤ W64 (r * r)) <;> cases decide (sq bx bY px py ≤ W64 (r * r)) <;> trivial
  unfold T_round
  rw [eR, eC, eP]
  show Tree.sat _ (bif passF ⟨ax, ay, bx, bY, false⟩ (ringW px py r) then bif !decide (LsV ax ay bx bY px py r < 0) then .fail else T_rest ax ay bx bY px py r (passF ⟨ax, ay, bx, bY, false⟩ (ringW px py r)) (ringW px py r) else T_rest ax ay bx bY px py r (passF ⟨ax, ay, bx, bY, false⟩ (ringW px py r)) (ringW px py r))
  have hr := hrest _ rfl
  cases hp : passF ⟨ax, ay, bx, bY, false⟩ (ringW px py r) with
  | false => rw [hp] at hr; exact hr
  | true =>
    rw [hp] at hr
    rw [decide_eq_true (round_cut hx hy h1 h2 hp)]
    exact hr
theorem TY_round_ok (y : TCTs cs_turfRound) (h : WFDs cs_turfRound y) : (TY_round y).sat (fun _ => True) := by
  obtain ⟨⟨ax, ay, _⟩, ⟨bx, bY, _⟩, ⟨px, py, _⟩, s, (r : Int), _⟩ := y
  obtain ⟨⟨a1, a2, _⟩, ⟨b1, b2, _⟩, ⟨c1, c2, _⟩, hs, hr, _⟩ := h
  have hr' : (0 : Int) ≤ (r : Int) ∧ (r : Int) ≤ 65535 := hr
  show (T_round (ax * sc s) (ay * sc s) (bx * sc s) (bY * sc s) (px * sc s) (py * sc s) (W64 (1 + W64 r))).sat _
  rw [show W64 r = r from wrap_id (by omega) (by omega), show W64 (1 + r) = 1 + r from wrap_id (by omega) (by omega)]
  exact T_round_ok (smol_sc a1 hs) (smol_sc a2 hs) (smol_sc b1 hs) (smol_sc b2 hs) (smol_sc c1 hs) (smol_sc c2 hs) (by omega) (by omega)
theorem turfRound_sat : LawSat X_turfRound 12 cs_turfRound 8 := lawSat 8 TY_round TY_round_eq TY_round_ok
end V
end Go.Proofs.Ythgmpjljlpacgaa
