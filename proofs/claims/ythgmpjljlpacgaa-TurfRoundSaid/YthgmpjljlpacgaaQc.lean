/- Passes of turf: the ring's sides one after another; the contract. -/
import Derived.Test.YthgmpjljlpacgaaQb
namespace Go.Proofs.Ythgmpjljlpacgaa
open Go.RowKit
namespace V
/-- the parts of a segment that are inside yet -/
structure PS where
  f0 : Int
  f1 : Int
  t0 : Int
  t1 : Int
  o0 : Bool
  o1 : Bool
  an : Bool
def PS.low (s : PS) (x y : Int) : PS := { s with f0 := W64 (0 - x), f1 := W64 (y - x), o0 := true, an := true }
def PS.up (s : PS) (x y : Int) : PS := { s with t0 := x, t1 := W64 (x - y), o1 := true, an := true }
def PS.one (s : PS) : PS := { s with an := true }
structure PC where
  ax : Int
  ay : Int
  bx : Int
  bY : Int
  rb : Bool
def plPa : List (Nat × PureT) := [(65, s_left), (75, s_below)]
theorem puPa : PuOk Try.prog plPa := puOk_cons is_left.plain q_left (puOk_cons is_below.plain q_below puOk_nil)
noncomputable def lk_pa : LK := { id := 9, keys := [3, 4, 6, 7, 8, 9, 10], ks := [.p 0 0 0 0, .p 1 0 0 0, .p 2 0 0 0, .p 3 0 0 0, .p 4 0 0 0, .p 5 0 0 0, .p 6 0 0 0], n := 92, fn := 61, params := [22, 23], assign := (rangeAt Try.f61 0).1, body := (rangeAt Try.f61 0).2, df := 8, st := some 0 }
noncomputable def lk_pr : LK := { id := 9, keys := [], ks := [], n := 92, fn := 61, params := [22, 23], assign := (rangeAt Try.f61 0).1, body := (rangeAt Try.f61 0).2, df := 8, st := some 1 }
def bs_pa : List BK := [(0, 35, [.d cI, .d cI]), (1, 35, [.d cI, .d cI]), (2, 4, [.d .b]), (3, 99, [.d cI, .d cI]), (4, 99, [.d cI, .d cI]), (5, 100, [.d .b, .d .b]), (6, 4, [.d .b]), (7, 59, [.d (.sl cPt)])]
noncomputable def L_pa : Lay2 := { keys := [0, 1, 6, 7, 8], ks := [.y 9, .p 7 0 0 0, .d (.sl cPt), .d cI, .d cI], bs := bs_pa, ls := [lk_pa], n := 32, nx := 1000, marks := [], ds := [8] }
noncomputable def R_pa : Lay2 := { keys := [], ks := [], bs := [(2, 4, [.d .b])], ls := [lk_pr], n := 32, nx := 1000, marks := [], ds := [8] }
noncomputable def E_pa : XE → Lay2 := fun e => match e with | .ret => R_pa | _ => L_pa
abbrev lPa : LTs [lk_pa] := (((((), (), (), (), (), (), (), ()) : SKTs lk_pa.ks), ((() : Unit) : StT lk_pa.st)), ())
abbrev lPr : LTs [lk_pr] := ((((() : Unit) : SKTs lk_pr.ks), ((() : Unit) : StT lk_pr.st)), ())
def bPa (c : PC) (m : List (TCT cPt)) (s : PS) : BTs bs_pa := ((c.ax, c.ay, ()), (c.bx, c.bY, ()), (c.rb, ()), (s.f0, s.f1, ()), (s.t0, s.t1, ()), (s.o0, s.o1, ()), (s.an, ()), (m, ()), ())
def Pg (l : List (TCT cPt)) (n i : Int) (c : PC) (m : List (TCT cPt)) (s : PS) : L_pa.T := (((), (), l, n, i, ()), bPa c m s, lPa)
def Pr (b : Bool) : R_pa.T := ((), ((b, ()), ()), lPr)
section
variable (next : PS → Tree (L_pa.T ⊕ Left2 E_pa)) (s : PS) (x y : Int)
def lowT : Tree (L_pa.T ⊕ Left2 E_pa) :=
  bif !s.o0 then next (s.low x y) else bif okBe s.f0 s.f1 (W64 (0 - x)) (W64 (y - x)) then bif decide (s.f0 * W64 (y - x) < W64 (0 - x) * s.f1) then next (s.low x y) else next s.one else .fail
def upT : Tree (L_pa.T ⊕ Left2 E_pa) :=
  bif !s.o1 then next (s.up x y) else bif okBe x (W64 (x - y)) s.t0 s.t1 then bif decide (x * s.t1 < s.t0 * W64 (x - y)) then next (s.up x y) else next s.one else .fail
def bodT : Tree (L_pa.T ⊕ Left2 E_pa) :=
  bif decide (x ≤ 0) then
    bif decide (y ≤ 0) then .need (selfL [lk_pr]) (.leaf (.inr ⟨.ret, Pr false⟩)) else bif decide (x ≤ 0) then lowT next s x y else bif decide (y ≤ 0) then upT next s x y else next s.one
  else bif decide (x ≤ 0) then lowT next s x y else bif decide (y ≤ 0) then upT next s x y else next s.one
end
def ptAt (l : List (TCT cPt)) (i : Int) : TCT cPt := getA l i.toNat (dflt cPt)
def nxt (m : List (TCT cPt)) (i : Int) : Int := (W64 (i + 1)).tmod (m.length : Int)
def sameB (q p : TCT cPt) : Bool := q.1 == p.1 && (q.2.1 == p.2.1 && true)
def lfP (p q : TCT cPt) (x y : Int) : Int := lft p.1 p.2.1 q.1 q.2.1 x y
def okL (p q : TCT cPt) (x y : Int) : Bool := fpt p.1 p.2.1 && (fpt q.1 q.2.1 && fpt x y)
def st_pa (l : List (TCT cPt)) (n i : Int) (c : PC) (m : List (TCT cPt)) (s : PS) : Tree (L_pa.T ⊕ Left2 E_pa) :=
  bif decide (i < n) then bif decide (0 ≤ i ∧ i < (l.length : Int)) then bif (m.length : Int) != 0 then bif decide (0 ≤ nxt m i ∧ nxt m i < (m.length : Int)) then
  bif !sameB (ptAt m (nxt m i)) (ptAt l i) then
    bif okL (ptAt l i) (ptAt m (nxt m i)) c.ax c.ay then bif okL (ptAt l i) (ptAt m (nxt m i)) c.bx c.bY then
      bodT (fun s => .need (selfL [lk_pa]) (.leaf (.inl (Pg l n (W64 (i + 1)) c m s)))) s (lfP (ptAt l i) (ptAt m (nxt m i)) c.ax c.ay) (lfP (ptAt l i) (ptAt m (nxt m i)) c.bx c.bY)
    else .fail else .fail
  else .need (selfL [lk_pa]) (.leaf (.inl (Pg l n (W64 (i + 1)) c m s)))
  else .fail else .fail else .fail else .need (selfL [lk_pa]) (.leaf (.inr ⟨.exit 0, Pg l n i c m s⟩))
noncomputable def lb_pa : Code := (loopsOf (bodyOf Try.f78)).getD 0 .skip
noncomputable def X_pa : Ctx := ctx Try.prog plPa [(61, Try.f61)]
def pcP (g : L_pa.T) : PC := ⟨g.2.1.1.1, g.2.1.1.2.1, g.2.1.2.1.1, g.2.1.2.1.2.1, g.2.1.2.2.1.1⟩
def psP (g : L_pa.T) : PS := ⟨g.2.1.2.2.2.1.1, g.2.1.2.2.2.1.2.1, g.2.1.2.2.2.2.1.1, g.2.1.2.2.2.2.1.2.1, g.2.1.2.2.2.2.2.1.1, g.2.1.2.2.2.2.2.1.2.1, g.2.1.2.2.2.2.2.2.1.1⟩
def mP (g : L_pa.T) : List (TCT cPt) := g.2.1.2.2.2.2.2.2.2.1.1
theorem e_pa (g : L_pa.T) : evC Try.prog (evFn X_pa 7) X_pa.pures 78 X_pa.u (fun _ => none) lb_pa (L_pa.of g) (stepOut2 L_pa E_pa) = st_pa g.1.2.2.1 g.1.2.2.2.1 g.1.2.2.2.2.1 (pcP g) (mP g) (psP g) := by kernel_rfl
/-- what a side comes to -/
def PS.lowP (s : PS) (x y : Int) : PS := { s with f0 := 0 - x, f1 := y - x, o0 := true, an := true }
def PS.upP (s : PS) (x y : Int) : PS := { s with t0 := x, t1 := x - y, o1 := true, an := true }
def pSt (x y : Int) (s : PS) : Option PS :=
  bif decide (x ≤ 0) && decide (y ≤ 0) then none else
  bif decide (x ≤ 0) then some (bif !s.o0 || decide (s.f0 * (y - x) < (0 - x) * s.f1) then s.lowP x y else s.one) else
  bif decide (y ≤ 0) then some (bif !s.o1 || decide (x * s.t1 < s.t0 * (x - y)) then s.upP x y else s.one) else some s.one
def pStep (c : PC) (l : List (TCT cPt)) (i : Nat) (s : PS) : Option PS :=
  bif sameB (getA l ((i + 1) % l.length) (dflt cPt)) (getA l i (dflt cPt)) then some s else
  pSt (lfP (getA l i (dflt cPt)) (getA l ((i + 1) % l.length) (dflt cPt)) c.ax c.ay) (lfP (getA l i (dflt cPt)) (getA l ((i + 1) % l.length) (dflt cPt)) c.bx c.bY) s
def pasR (c : PC) (l : List (TCT cPt)) : Nat → Nat → PS → Option PS
  | 0, _, s => some s
  | f + 1, i, s => (pStep c l i s).bind fun s' => pasR c l f (i + 1) s'
def okP (x : Option PS) : Bool := match x with
  | some _ => true
  | none => false
def ps0 : PS := ⟨0, 1, 1, 1, false, false, false⟩
def getP (x : Option PS) : PS := match x with
  | some s => s
  | none => ps0
structure PInv (s : PS) : Prop where
  a : 0 ≤ s.f0
  b : 0 ≤ s.f1
  c : 0 ≤ s.t0
  d : 0 ≤ s.t1
theorem pSt_inv {x y : Int} {s s' : PS} (I : PInv s) (h : pSt x y s = some s') : PInv s' := by
  unfold pSt at h
  by_cases hx : x ≤ 0
  · by_cases hy : y ≤ 0
    · rw [decide_eq_true hx, decide_eq_true hy] at h; simp at h
    · rw [decide_eq_true hx, decide_eq_false hy] at h
      simp only [Bool.and_false, cond_false, cond_true, Option.some.injEq] at h
      subst h
      cases (!s.o0 || decide (s.f0 * (y - x) < (0 - x) * s.f1))
      · exact ⟨I.a, I.b, I.c, I.d⟩
      · exact ⟨by show 0 ≤ 0 - x; omega, by show 0 ≤ y - x; omega, I.c, I.d⟩
  · by_cases hy : y ≤ 0
    · rw [decide_eq_false hx, decide_eq_true hy] at h
      simp only [Bool.false_and, cond_false, cond_true, Option.some.injEq] at h
      subst h
      cases (!s.o1 || decide (x * s.t1 < s.t0 * (x - y)))
      · exact ⟨I.a, I.b, I.c, I.d⟩
      · exact ⟨I.a, I.b, by show 0 ≤ x; omega, by show 0 ≤ x - y; omega⟩
    · rw [decide_eq_false hx, decide_eq_false hy] at h
      simp only [Bool.false_and, cond_false, Option.some.injEq] at h
      subst h
      exact ⟨I.a, I.b, I.c, I.d⟩
theorem bodT_sat {next : PS → Tree (L_pa.T ⊕ Left2 E_pa)} {s : PS} {x y : Int} {Q : L_pa.T ⊕ Left2 E_pa → Prop} (I : PInv s) (x1 : -1000000000000000 ≤ x) (x2 : x ≤ 1000000000000000) (y1 : -1000000000000000 ≤ y) (y2 : y ≤ 1000000000000000)
    (h1 : ∀ s', pSt x y s = some s' → (next s').sat Q) (h2 : pSt x y s = none → Q (.inr ⟨.ret, Pr false⟩)) : (bodT next s x y).sat Q := by
  unfold bodT
  by_cases hx : x ≤ 0
  · rw [decide_eq_true hx]
    by_cases hy : y ≤ 0
    · rw [decide_eq_true hy]
      refine ⟨selfL_ok _, h2 ?_⟩
      unfold pSt; rw [decide_eq_true hx, decide_eq_true hy]; rfl
    · rw [decide_eq_false hy]
      have hp : pSt x y s = some (bif !s.o0 || decide (s.f0 * (y - x) < (0 - x) * s.f1) then s.lowP x y else s.one) := by unfold pSt; rw [decide_eq_true hx, decide_eq_false hy]; rfl
      have hn := h1 _ hp
      have el : s.low x y = s.lowP x y := by unfold PS.low PS.lowP; rw [show W64 (0 - x) = 0 - x from wrap_id (by omega) (by omega), show W64 (y - x) = y - x from wrap_id (by omega) (by omega)]
      show (lowT next s x y).sat Q
      unfold lowT
      rw [el, show W64 (0 - x) = 0 - x from wrap_id (by omega) (by omega), show W64 (y - x) = y - x from wrap_id (by omega) (by omega)]
      cases ho : s.o0 with
      | false => rw [ho] at hn; exact hn
      | true =>
        rw [ho] at hn
        rw [show okBe s.f0 s.f1 (0 - x) (y - x) = true from decide_eq_true ⟨I.a, I.b, by omega, by omega⟩]
        cases hd : decide (s.f0 * (y - x) < (0 - x) * s.f1) <;> (rw [hd] at hn; exact hn)
  · rw [decide_eq_false hx]
    by_cases hy : y ≤ 0
    · rw [decide_eq_true hy]
      have hp : pSt x y s = some (bif !s.o1 || decide (x * s.t1 < s.t0 * (x - y)) then s.upP x y else s.one) := by unfold pSt; rw [decide_eq_false hx, decide_eq_true hy]; rfl
      have hn := h1 _ hp
      have el : s.up x y = s.upP x y := by unfold PS.up PS.upP; rw [show W64 (x - y) = x - y from wrap_id (by omega) (by omega)]
      show (upT next s x y).sat Q
      unfold upT
      rw [el, show W64 (x - y) = x - y from wrap_id (by omega) (by omega)]
      cases ho : s.o1 with
      | false => rw [ho] at hn; exact hn
      | true =>
        rw [ho] at hn
        rw [show okBe x (x - y) s.t0 s.t1 = true from decide_eq_true ⟨by omega, by omega, I.c, I.d⟩]
        cases hd : decide (x * s.t1 < s.t0 * (x - y)) <;> (rw [hd] at hn; exact hn)
    · rw [decide_eq_false hy]
      exact h1 _ (by unfold pSt; rw [decide_eq_false hx, decide_eq_false hy]; rfl)
theorem fpt_b {x y : Int} (h : fpt x y = true) : (-4194304 ≤ x ∧ x ≤ 4194304) ∧ (-4194304 ≤ y ∧ y ≤ 4194304) := by
  unfold fpt at h
  obtain ⟨a, b, c, d⟩ := of_decide_eq_true h
  exact ⟨⟨a, b⟩, c, d⟩
theorem lft_bd {ax ay bx bY px py : Int} (h1 : fpt ax ay = true) (h2 : fpt bx bY = true) (h3 : fpt px py = true) : -1000000000000000 ≤ lft ax ay bx bY px py ∧ lft ax ay bx bY px py ≤ 1000000000000000 := by
  have a := fpt_b h1; have b := fpt_b h2; have c := fpt_b h3
  have t := two_bd (x := bx - ax) (y := py - ay) (u := px - ax) (v := bY - ay) (by omega) (by omega) (by omega) (by omega)
  unfold lft
  omega
def okPa (l : List (TCT cPt)) (n i : Int) (c : PC) (s : PS) : Bool := decide (n = (l.length : Int) ∧ i = 0 ∧ l.length ≤ 1000 ∧ 0 ≤ s.f0 ∧ 0 ≤ s.f1 ∧ 0 ≤ s.t0 ∧ 0 ≤ s.t1) && (l.all fp && (fpt c.ax c.ay && fpt c.bx c.bY))
def fin_pa (g : L_pa.T) : Tree (Left2 E_pa) :=
  .need (mP g = g.1.2.2.1) (.br (okPa g.1.2.2.1 g.1.2.2.2.1 g.1.2.2.2.2.1 (pcP g) (psP g))
    (.br (okP (pasR (pcP g) g.1.2.2.1 g.1.2.2.1.length 0 (psP g))) (.leaf ⟨.exit 0, Pg g.1.2.2.1 (g.1.2.2.1.length : Int) (g.1.2.2.1.length : Int) (pcP g) (mP g) (getP (pasR (pcP g) g.1.2.2.1 g.1.2.2.1.length 0 (psP g)))⟩) (.leaf ⟨.ret, Pr false⟩)) .fail)
theorem pasR_zero (c : PC) (l : List (TCT cPt)) (i : Nat) (s : PS) : pasR c l 0 i s = some s := rfl
theorem pasR_succ (c : PC) (l : List (TCT cPt)) (f i : Nat) (s : PS) : pasR c l (f + 1) i s = (pStep c l i s).bind fun s' => pasR c l f (i + 1) s' := rfl
theorem fp_at {l : List (TCT cPt)} (h : l.all fp = true) {i : Nat} (hi : i < l.length) : fp (getA l i (dflt cPt)) = true := List.all_eq_true.1 h _ (getA_mem hi _)
theorem rnds_pa {step : L_pa.T → Tree (L_pa.T ⊕ Left2 E_pa)} (hs : ∀ l n i c m s, step (Pg l n i c m s) = st_pa l n i c m s) (R : Left2 E_pa → Prop) (l : List (TCT cPt)) (c : PC) (hl : l.length ≤ 1000) (hf : l.all fp = true) (ha : fpt c.ax c.ay = true) (hb : fpt c.bx c.bY = true) (f : Nat) :
    ∀ (i : Nat) (s : PS), i + f = l.length → PInv s → (okP (pasR c l f i s) = true → R ⟨.exit 0, Pg l (l.length : Int) (l.length : Int) c l (getP (pasR c l f i s))⟩) → (okP (pasR c l f i s) = false → R ⟨.ret, Pr false⟩) →
      Rnds2 L_pa E_pa step R (f + 1) (Pg l (l.length : Int) (i : Int) c l s) := by
  induction f with
  | zero =>
    intro i s hi _ h1 _
    have e : i = l.length := by omega
    subst e
    intro _
    rw [hs]
    unfold st_pa
    rw [decide_eq_false (show ¬ (l.length : Int) < (l.length : Int) by omega)]
    exact ⟨selfL_ok _, fun _ => h1 rfl⟩
  | succ f ih =>
    intro i s hi I h1 h2
    have hlt : i < l.length := by omega
    have hl0 : 0 < l.length := by omega
    have hm := Nat.mod_lt (i + 1) hl0
    intro _
    rw [hs]
    unfold st_pa
    rw [pasR_succ] at h1 h2
    have en : nxt l (i : Int) = (((i + 1) % l.length : Nat) : Int) := by
      unfold nxt
      rw [show W64 ((i : Int) + 1) = ((i + 1 : Nat) : Int) from (wrap_id (by omega) (by omega)).trans rfl]
      rfl
    have ep : ptAt l (i : Int) = getA l i (dflt cPt) := by unfold ptAt; rw [show (i : Int).toNat = i by omega]
    have eq : ptAt l (((i + 1) % l.length : Nat) : Int) = getA l ((i + 1) % l.length) (dflt cPt) := by unfold ptAt; rw [Int.toNat_natCast]
    have f1 := fp_at hf hlt
    have f2 := fp_at hf hm
    rw [en, ep, eq, decide_eq_true (show (i : Int) < (l.length : Int) by omega), decide_eq_true (show 0 ≤ (i : Int) ∧ (i : Int) < (l.length : Int) by omega), show ((l.length : Int) != 0) = true from bne_iff_ne.2 (by omega), decide_eq_true (show 0 ≤ (((i + 1) % l.length : Nat) : Int) ∧ (((i + 1) % l.length : Nat) : Int) < (l.length : Int) from ⟨Int.natCast_nonneg _, Int.ofNat_lt.2 hm⟩),
      show W64 ((i : Int) + 1) = ((i + 1 : Nat) : Int) from (wrap_id (by omega) (by omega)).trans rfl]
    have hstep : pStep c l i s = bif sameB (getA l ((i + 1) % l.length) (dflt cPt)) (getA l i (dflt cPt)) then some s else pSt (lfP (getA l i (dflt cPt)) (getA l ((i + 1) % l.length) (dflt cPt)) c.ax c.ay) (lfP (getA l i (dflt cPt)) (getA l ((i + 1) % l.length) (dflt cPt)) c.bx c.bY) s := rfl
    cases hsame : sameB (getA l ((i + 1) % l.length) (dflt cPt)) (getA l i (dflt cPt)) with
    | true =>
      rw [hsame] at hstep
      rw [show pStep c l i s = some s from hstep, Option.bind_some] at h1 h2
      exact ⟨selfL_ok _, ih (i + 1) s (by omega) I h1 h2⟩
    | false =>
      rw [hsame, cond_false] at hstep
      generalize hp : getA l i (dflt cPt) = p at *
      generalize hq : getA l ((i + 1) % l.length) (dflt cPt) = q at *
      have o1 : okL p q c.ax c.ay = true := by unfold okL; rw [show fpt p.1 p.2.1 = true from f1, show fpt q.1 q.2.1 = true from f2, ha]; rfl
      have o2 : okL p q c.bx c.bY = true := by unfold okL; rw [show fpt p.1 p.2.1 = true from f1, show fpt q.1 q.2.1 = true from f2, hb]; rfl
      have b1 := lft_bd (show fpt p.1 p.2.1 = true from f1) (show fpt q.1 q.2.1 = true from f2) ha
      have b2 := lft_bd (show fpt p.1 p.2.1 = true from f1) (show fpt q.1 q.2.1 = true from f2) hb
      rw [o1, o2]
      refine bodT_sat I b1.1 b1.2 b2.1 b2.2 (fun s' hs' => ?_) (fun hs' => ?_)
      · rw [hstep, hs', Option.bind_some] at h1 h2
        exact ⟨selfL_ok _, ih (i + 1) s' (by omega) (pSt_inv I hs') h1 h2⟩
      · rw [hstep, hs'] at h2
        exact fun _ => h2 rfl
theorem is_passes : FnIs Try.prog (61, Try.f61) := ⟨Try.func61, by kernel_rfl, by kernel_rfl⟩
theorem is_sides : FnIs Try.prog (74, Try.f74) := ⟨Try.func74, by kernel_rfl, by kernel_rfl⟩
theorem is_sides1 : FnIs Try.prog (78, Try.f78) := ⟨Try.func78, by kernel_rfl, by kernel_rfl⟩
theorem l_pa : LoopOk Try.prog 78 lb_pa (loopSum2 L_pa E_pa fin_pa) := by
  refine loopOk_of2 (X := X_pa) (ctx_ok mixed puPa (fns_cons is_passes fns_nil)) 7 78 (fun _ => none) (fun _ _ f h => by simp at h) L_pa E_pa (fun e => by cases e <;> exact Nat.le_refl _) fin_pa (fun g => st_pa g.1.2.2.1 g.1.2.2.2.1 g.1.2.2.2.2.1 (pcP g) (mP g) (psP g)) e_pa ?_
  intro g R _ hf
  obtain ⟨hm, hf, h0⟩ := hf
  cases hc : okPa g.1.2.2.1 g.1.2.2.2.1 g.1.2.2.2.2.1 (pcP g) (psP g) with
  | false => exact (h0 hc).elim
  | true =>
    obtain ⟨h1, h2⟩ := hf hc
    unfold okPa at hc
    simp only [Bool.and_eq_true] at hc
    obtain ⟨hd, hfp, hfa, hfb⟩ := hc
    obtain ⟨k1, k2, k3, k4, k5, k6, k7⟩ := of_decide_eq_true hd
    have eg : g = Pg g.1.2.2.1 (g.1.2.2.1.length : Int) ((0 : Nat) : Int) (pcP g) g.1.2.2.1 (psP g) := by
      rw [show ((0 : Nat) : Int) = g.1.2.2.2.2.1 from k2.symm, ← k1]
      show g = Pg g.1.2.2.1 g.1.2.2.2.1 g.1.2.2.2.2.1 (pcP g) g.1.2.2.1 (psP g)
      rw (occs := .pos [2]) [← hm]
      rfl
    rw [hm] at h1
    refine ⟨g.1.2.2.1.length + 1, ?_⟩
    rw [eg]
    exact rnds_pa (fun _ _ _ _ _ _ => rfl) R g.1.2.2.1 (pcP g) k3 hfp hfa hfb g.1.2.2.1.length 0 (psP g) (by omega) ⟨k4, k5, k6, k7⟩ h1 h2
/-! the contract -/
noncomputable def X_passes : Ctx := ctxL Try.prog plPa [(61, Try.f61), (74, Try.f74), (78, Try.f78)] [((78, 1), loopSum2 L_pa E_pa fin_pa)]
def T_end (s : PS) : Tree (TCTs [.b]) :=
  bif s.an then bif okBe s.f0 s.f1 s.t0 s.t1 then bif decide (s.f0 * s.t1 < s.t0 * s.f1) then .leaf (true, ()) else bif !s.o0 then .leaf (!s.o1, ()) else .leaf (false, ()) else .fail else .leaf (false, ())
def T_passes (c : PC) (l : List (TCT cPt)) : Tree (TCTs [.b]) :=
  .need (selfL [lk_pa]) (.need (l = l) (bif okPa l (l.length : Int) 0 c ps0 then bif okP (pasR c l l.length 0 ps0) then T_end (getP (pasR c l l.length 0 ps0)) else .leaf (false, ()) else .fail))
abbrev okPas (x : TCTs [cPt, cPt, .sl cPt]) : Bool := decide (x.2.2.1.length ≤ 1000) && (x.2.2.1.all fp && (fpt x.1.1 x.1.2.1 && fpt x.2.1.1 x.2.1.2.1))
theorem T_passes_eq (x : TCTs [cPt, cPt, .sl cPt]) : evFn X_passes 7 (.fn 61) (encAs [cPt, cPt, .sl cPt] x) noHeap 0 (outK Try.prog [.b]) = T_passes ⟨x.1.1, x.1.2.1, x.2.1.1, x.2.1.2.1, false⟩ x.2.2.1 := by kernel_rfl
def endF (s : PS) : Bool := s.an && (decide (s.f0 * s.t1 < s.t0 * s.f1) || (!s.o0 && !s.o1))
def passF (c : PC) (l : List (TCT cPt)) : Bool := okP (pasR c l l.length 0 ps0) && endF (getP (pasR c l l.length 0 ps0))
theorem pStep_inv {c : PC} {l : List (TCT cPt)} {i : Nat} {s s' : PS} (I : PInv s) (h : pStep c l i s = some s') : PInv s' := by
  unfold pStep at h
  cases hs : sameB (getA l ((i + 1) % l.length) (dflt cPt)) (getA l i (dflt cPt)) with
  | true => rw [hs] at h; simp only [cond_true, Option.some.injEq] at h; subst h; exact I
  | false => rw [hs, cond_false] at h; exact pSt_inv I h
theorem pasR_inv {c : PC} {l : List (TCT cPt)} (f : Nat) : ∀ (i : Nat) (s s' : PS), PInv s → pasR c l f i s = some s' → PInv s' := by
  induction f with
  | zero => intro i s s' I h; rw [pasR_zero, Option.some.injEq] at h; subst h; exact I
  | succ f ih =>
    intro i s s' I h
    rw [pasR_succ] at h
    cases h1 : pStep c l i s with
    | none => rw [h1] at h; simp at h
    | some t => rw [h1, Option.bind_some] at h; exact ih (i + 1) t s' (pStep_inv I h1) h
theorem ps0_inv : PInv ps0 := ⟨by decide, by decide, by decide, by decide⟩
theorem T_passes_ok (c : PC) (l : List (TCT cPt)) (h1 : l.length ≤ 1000) (h2 : l.all fp = true) (h3 : fpt c.ax c.ay = true) (h4 : fpt c.bx c.bY = true) : (T_passes c l).sat (fun y => y = (passF c l, ())) := by
  refine ⟨selfL_ok _, rfl, ?_⟩
  have hok : okPa l (l.length : Int) 0 c ps0 = true := by
    unfold okPa
    rw [h2, h3, h4, decide_eq_true (show (l.length : Int) = (l.length : Int) ∧ (0 : Int) = 0 ∧ l.length ≤ 1000 ∧ 0 ≤ ps0.f0 ∧ 0 ≤ ps0.f1 ∧ 0 ≤ ps0.t0 ∧ 0 ≤ ps0.t1 from ⟨rfl, rfl, h1, by decide, by decide, by decide, by decide⟩)]
    rfl
  rw [hok, cond_true]
  unfold passF
  cases hp : pasR c l l.length 0 ps0 with
  | none => exact rfl
  | some s =>
    have I := pasR_inv _ _ _ _ ps0_inv hp
    show (T_end s).sat (fun y => y = (endF s, ()))
    unfold T_end endF
    cases s.an with
    | false => exact rfl
    | true =>
      rw [show okBe s.f0 s.f1 s.t0 s.t1 = true from decide_eq_true ⟨I.a, I.b, I.c, I.d⟩]
      cases decide (s.f0 * s.t1 < s.t0 * s.f1) <;> cases s.o0 <;> cases s.o1 <;> exact rfl
theorem X_passes_ok : CtxOk X_passes := by
  refine ctxL_ok mixed puPa (fns_cons is_passes (fns_cons is_sides (fns_cons is_sides1 fns_nil))) ?_
  intro p hp d hd g hg
  simp only [List.mem_cons, List.not_mem_nil, or_false] at hp
  rcases hp with rfl | rfl | rfl
  · simp only [assoc2] at hg
    rw [show Nat.beq 78 61 = false from rfl, Bool.false_and] at hg
    cases hg
  · simp only [assoc2] at hg
    rw [show Nat.beq 78 74 = false from rfl, Bool.false_and] at hg
    cases hg
  · have hl : loopsOf (bodyOf Try.f78) = [lb_pa] := by kernel_rfl
    simp only at hd hg
    rw [hl, List.mem_singleton] at hd
    subst hd
    have hk : keyOf lb_pa = 1 := by kernel_rfl
    rw [hk] at hg
    simp [assoc2] at hg
    subst hg
    exact l_pa
abbrev s_passes : PureT := spec [cPt, cPt, .sl cPt] [.b] okPas (fun x => (passF ⟨x.1.1, x.1.2.1, x.2.1.1, x.2.1.2.1, false⟩ x.2.2.1, ()))
theorem q_passes : PureOk Try.prog 61 s_passes := q_by X_passes_ok 7 (fun x => T_passes ⟨x.1.1, x.1.2.1, x.2.1.1, x.2.1.2.1, false⟩ x.2.2.1) (fun x => T_passes_eq x) fun x hok _ => by
  have h : okPas x = true := hok
  unfold okPas at h
  simp only [Bool.and_eq_true, decide_eq_true_eq] at h
  exact T_passes_ok _ _ h.1 h.2.1 h.2.2.1 h.2.2.2
end V
end Go.Proofs.Ythgmpjljlpacgaa
