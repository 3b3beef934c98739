/- The law ContactSum: for all arguments it returns true. -/
import Derived.Test.YtmmhbianajpdgaaSf
import Derived.Test.YtmmhbianajpdgaaOb
namespace Go.Proofs.Ytmmhbianajpdgaa
open Go.RowKit
namespace V
theorem is_ContactSum : FnIs Try.prog (11, Try.f11) := ⟨Try.func11, by kernel_rfl, by kernel_rfl⟩
def plSm : List (Nat × PureT) := (38, s_Settle) :: (40, s_Total) :: (42, s_close) :: plL
theorem puSm : PuOk Try.prog plSm := puOk_cons is_Settle.plain q_Settle (puOk_cons is_Total.plain q_Total (puOk_cons is_Close.plain q_Close puL))
noncomputable def lbM (i : Nat) : Code := (loopsOf (bodyOf Try.f11)).getD i .skip
def L_sa : Lay := { keys := [14, 0, 1, 7, 8, 13], ks := [.d cI, .d (.sl cBall), .d (.sl cMot), .d (.sl cMot), .d (.sl cPair), .o 4 .b], bs := [], n := 194, nx := 1000, marks := [] }
def X_sa : Lay := { keys := [0, 1, 7, 8, 13], ks := [.d (.sl cBall), .d (.sl cMot), .d (.sl cMot), .d (.sl cPair), .o 4 .b], bs := [], n := 194, nx := 1000, marks := [] }
def R_sa : Lay := { keys := [6], ks := [.d .b], bs := [], n := 194, nx := 1000, marks := [] }
def E_sa : XE → Lay := fun e => match e with | .ret => R_sa | _ => X_sa
def L_sb : Lay := { keys := [17, 1, 7, 13], ks := [.d cI, .d (.sl cMot), .d (.sl cMot), .o 4 .b], bs := [], n := 194, nx := 1100, marks := [] }
def X_sb : Lay := { keys := [], ks := [], bs := [], n := 194, nx := 1100, marks := [] }
def R_sb : Lay := { keys := [6], ks := [.d .b], bs := [], n := 194, nx := 1100, marks := [] }
def E_sb : XE → Lay := fun e => match e with | .ret => R_sb | _ => X_sb
def Ag (i : Int) (l : List (TCT cBall)) (s t : List (TCT cMot)) (p : List (TCT cPair)) (h : List Bool) : L_sa.T := ((i, l, s, t, p, h, ()), ())
def Ax (l : List (TCT cBall)) (s t : List (TCT cMot)) (p : List (TCT cPair)) (h : List Bool) : X_sa.T := ((l, s, t, p, h, ()), ())
def Ar : R_sa.T := ((false, ()), ())
def Bg (i : Int) (s t : List (TCT cMot)) (h : List Bool) : L_sb.T := ((i, s, t, h, ()), ())
def Bx : X_sb.T := ((), ())
def Br : R_sb.T := ((false, ()), ())
def pAt (p : List (TCT cPair)) (i : Int) : TCT cPair := getA p i.toNat (dflt cPair)
def pj (p : TCT cPair) : Int := p.1
def pk (p : TCT cPair) : Int := p.2.1
def hit2 (h : List Bool) (p : TCT cPair) : List Bool := setA (setA h (pj p).toNat true) (pk p).toNat true
def st_sa1 (i : Int) (l : List (TCT cBall)) (s t : List (TCT cMot)) (p : List (TCT cPair)) (h : List Bool) (q : TCT cPair) : Tree (L_sa.T ⊕ Left' E_sa) :=
  bif decide (pj q < 0) then .leaf (.inr ⟨.ret, Ar⟩) else bif decide (pj q ≥ pk q) then .leaf (.inr ⟨.ret, Ar⟩) else bif decide (pk q ≥ (l.length : Int)) then .leaf (.inr ⟨.ret, Ar⟩) else
  bif decide (0 ≤ pj q ∧ pj q < (s.length : Int)) then bif decide (0 ≤ pk q ∧ pk q < (s.length : Int)) then bif decide (0 ≤ pj q ∧ pj q < (l.length : Int)) then bif decide (0 ≤ pk q ∧ pk q < (l.length : Int)) then
  bif fpt (bAt l s (pj q).toNat).px (bAt l s (pj q).toNat).py && (fpt (bAt l s (pk q).toNat).px (bAt l s (pk q).toNat).py && decide (0 ≤ W64 ((bAt l s (pj q).toNat).r + (bAt l s (pk q).toNat).r) ∧ W64 ((bAt l s (pj q).toNat).r + (bAt l s (pk q).toNat).r) ≤ 131072)) then
  bif !closeB (bAt l s (pj q).toNat).px (bAt l s (pj q).toNat).py (bAt l s (pk q).toNat).px (bAt l s (pk q).toNat).py (W64 ((bAt l s (pj q).toNat).r + (bAt l s (pk q).toNat).r)) then .leaf (.inr ⟨.ret, Ar⟩) else
  bif decide (0 ≤ pj q ∧ pj q < (h.length : Int)) then bif decide ((pj q).toNat < h.length) then
  bif decide (0 ≤ pk q ∧ pk q < ((setA h (pj q).toNat true).length : Int)) then bif decide ((pk q).toNat < (setA h (pj q).toNat true).length) then
    .leaf (.inl (Ag (W64 (i + 1)) l s t p (hit2 h q))) else .fail else .fail else .fail else .fail else .fail else .fail else .fail else .fail else .fail
def st_sa (i : Int) (l : List (TCT cBall)) (s t : List (TCT cMot)) (p : List (TCT cPair)) (h : List Bool) : Tree (L_sa.T ⊕ Left' E_sa) :=
  bif decide (i < (p.length : Int)) then bif decide (0 ≤ i ∧ i < (p.length : Int)) then bif decide (0 ≤ i ∧ i < (p.length : Int)) then st_sa1 i l s t p h (pAt p i) else .fail else .fail else .leaf (.inr ⟨.exit 0, Ax l s t p h⟩)
noncomputable def X_sm : Ctx := ctx Try.prog plSm []
theorem e_sa (g : L_sa.T) : evC Try.prog (evFn X_sm 7) plSm 11 64 (fun _ => none) (lbM 0) (L_sa.of g) (stepOut L_sa E_sa) = st_sa g.1.1 g.1.2.1 g.1.2.2.1 g.1.2.2.2.1 g.1.2.2.2.2.1 g.1.2.2.2.2.2.1 := by kernel_rfl
def st_sb (i : Int) (s t : List (TCT cMot)) (h : List Bool) : Tree (L_sb.T ⊕ Left' E_sb) :=
  bif decide (i < (t.length : Int)) then bif decide (0 ≤ i ∧ i < (t.length : Int)) then bif decide (0 ≤ i ∧ i < (s.length : Int)) then
  bif !eqP (mAt t i).1 (mAt s i).1 then .leaf (.inr ⟨.ret, Br⟩) else
  bif decide (0 ≤ i ∧ i < (t.length : Int)) then bif decide (0 ≤ i ∧ i < (s.length : Int)) then
  bif !eqP (mAt t i).2.2.1 (mAt s i).2.2.1 then .leaf (.inr ⟨.ret, Br⟩) else
  bif decide (0 ≤ i ∧ i < (h.length : Int)) then bif decide (i.toNat < h.length) then
  bif !getA h i.toNat (dflt .b) then bif decide (0 ≤ i ∧ i < (t.length : Int)) then bif decide (0 ≤ i ∧ i < (s.length : Int)) then
    bif !eqP (mAt t i).2.1 (mAt s i).2.1 then .leaf (.inr ⟨.ret, Br⟩) else .leaf (.inl (Bg (W64 (i + 1)) s t h)) else .fail else .fail
  else .leaf (.inl (Bg (W64 (i + 1)) s t h)) else .fail else .fail else .fail else .fail else .fail else .fail
  else .leaf (.inr ⟨.exit 2, Bx⟩)
theorem e_sb (g : L_sb.T) : evC Try.prog (evFn X_sm 7) plSm 11 64 (fun _ => none) (lbM 1) (L_sb.of g) (stepOut L_sb E_sb) = st_sb g.1.1 g.1.2.1 g.1.2.2.1 g.1.2.2.2.1 := by kernel_rfl
def PairOk (l : List (TCT cBall)) (s : List (TCT cMot)) (p : TCT cPair) : Prop :=
  ∃ j k : Nat, p = ((j : Int), (k : Int), ()) ∧ j < k ∧ k < s.length ∧ closeB (bAt l s j).px (bAt l s j).py (bAt l s k).px (bAt l s k).py ((bAt l s j).r + (bAt l s k).r) = true
def condA (i : Int) (l : List (TCT cBall)) (s : List (TCT cMot)) (p : List (TCT cPair)) (h : List Bool) : Prop :=
  i = 0 ∧ l.length = s.length ∧ h.length = s.length ∧ (l.zip s).all okBM = true ∧ ∀ q ∈ p, PairOk l s q
def condB (i : Int) (s t : List (TCT cMot)) (h : List Bool) : Prop :=
  i = 0 ∧ t.length = s.length ∧ h.length = s.length ∧ ∀ i, i < s.length → sameP (getA t i dM) (getA s i dM) ∧ (getA h i false = true ∨ getA t i dM = getA s i dM)
def hitF : List (TCT cPair) → List Bool → List Bool
  | [], h => h
  | q :: p, h => hitF p (hit2 h q)
def fin_sa (g : L_sa.T) : Tree (Left' E_sa) := .need (condA g.1.1 g.1.2.1 g.1.2.2.1 g.1.2.2.2.2.1 g.1.2.2.2.2.2.1) (.leaf ⟨.exit 0, Ax g.1.2.1 g.1.2.2.1 g.1.2.2.2.1 g.1.2.2.2.2.1 (hitF g.1.2.2.2.2.1 g.1.2.2.2.2.2.1)⟩)
def fin_sb (g : L_sb.T) : Tree (Left' E_sb) := .need (condB g.1.1 g.1.2.1 g.1.2.2.1 g.1.2.2.2.1) (.leaf ⟨.exit 2, Bx⟩)
theorem hit2_len (h : List Bool) (q : TCT cPair) : (hit2 h q).length = h.length := by unfold hit2; rw [setA_len, setA_len]
theorem run_sa (l : List (TCT cBall)) (s t : List (TCT cMot)) (p0 : List (TCT cPair)) : ∀ (p : List (TCT cPair)) (i : Nat) (h : List Bool),
    runL (fun (q : TCT cPair) (_ : Nat) (h : List Bool) => (.inl (hit2 h q) : List Bool ⊕ Left' E_sa)) (fun h => ⟨.exit 0, Ax l s t p0 h⟩) p i h = ⟨.exit 0, Ax l s t p0 (hitF p h)⟩
  | [], _, _ => rfl
  | q :: p, i, h => run_sa l s t p0 p (i + 1) (hit2 h q)
theorem run_allS {α B : Type} (b : B) : ∀ (l : List α) (i : Nat), runL (fun (_ : α) (_ : Nat) (_ : Unit) => (.inl () : Unit ⊕ B)) (fun _ => b) l i () = b
  | [], _ => rfl
  | _ :: l, i => run_allS b l (i + 1)
theorem l_sa : LoopOk Try.prog 11 (lbM 0) (loopSum L_sa E_sa fin_sa) := by
  refine loopOk_of (X := X_sm) (ctx_ok mixed puSm fns_nil) 7 11 (fun _ => none) (fun _ _ f h => by simp at h) L_sa E_sa (fun e => by cases e <;> exact Nat.le_refl _) fin_sa (fun g => st_sa g.1.1 g.1.2.1 g.1.2.2.1 g.1.2.2.2.1 g.1.2.2.2.2.1 g.1.2.2.2.2.2.1) e_sa ?_
  rintro ⟨⟨i, l, s, t, p, h, _⟩, _⟩ R hw ⟨⟨h1, h2, h3, h4, h5⟩, hf⟩
  have hlen : (p.length : Int) ≤ maxK .i64 := by
    simp only [Lay.WF, L_sa, WFKs, WFK, WFD] at hw
    exact hw.1.2.2.2.2.1.1
  simp only at h1 h2 h3 h4 h5 hf
  subst h1
  refine ⟨_, rnds_runL (L := L_sa) p (fun i h => Ag i l s t p h) (fun q _ h => .inl (hit2 h q)) (fun h => ⟨.exit 0, Ax l s t p h⟩) (fun h => h.length = s.length) ?_ ?_ p.length 0 h (by omega) h3 (by rw [List.drop_zero, run_sa]; exact hf)⟩
  · intro i h hi Q hh _ hQ
    show (st_sa i l s t p h).sat Q
    unfold st_sa
    rw [decide_eq_true (show (i : Int) < (p.length : Int) by omega), decide_eq_true (show 0 ≤ (i : Int) ∧ (i : Int) < (p.length : Int) by omega)]
    have hp : pAt p i = p[i] := by unfold pAt; rw [show (i : Int).toNat = i by omega, getA_lt hi]
    rw [hp]
    obtain ⟨j, k, e, hjk, hk, hc⟩ := h5 p[i] (List.getElem_mem hi)
    have hQ' := hQ (by rw [hit2_len]; exact hh)
    rw [e] at hQ' ⊢
    have ej : pj ((j : Int), (k : Int), ()) = (j : Int) := rfl
    have ek : pk ((j : Int), (k : Int), ()) = (k : Int) := rfl
    have fj := fit_of_chk h2 h4 (show j < s.length by omega)
    have fk := fit_of_chk h2 h4 hk
    have r1 := fj.r1; have r2 := fj.r2; have r3 := fk.r1; have r4 := fk.r2
    show (st_sa1 i l s t p h ((j : Int), (k : Int), ())).sat Q
    unfold st_sa1
    rw [ej, ek, show (j : Int).toNat = j by omega, show (k : Int).toNat = k by omega, decide_eq_false (show ¬ (j : Int) < 0 by omega), decide_eq_false (show ¬ (j : Int) ≥ (k : Int) by omega), decide_eq_false (show ¬ (k : Int) ≥ (l.length : Int) by omega),
      decide_eq_true (show 0 ≤ (j : Int) ∧ (j : Int) < (s.length : Int) by omega), decide_eq_true (show 0 ≤ (k : Int) ∧ (k : Int) < (s.length : Int) by omega), decide_eq_true (show 0 ≤ (j : Int) ∧ (j : Int) < (l.length : Int) by omega), decide_eq_true (show 0 ≤ (k : Int) ∧ (k : Int) < (l.length : Int) by omega),
      show W64 ((bAt l s j).r + (bAt l s k).r) = (bAt l s j).r + (bAt l s k).r from wrap_id (by omega) (by omega), fj.p, fk.p, decide_eq_true (show 0 ≤ (bAt l s j).r + (bAt l s k).r ∧ (bAt l s j).r + (bAt l s k).r ≤ 131072 by omega), hc,
      decide_eq_true (show 0 ≤ (j : Int) ∧ (j : Int) < (h.length : Int) by omega), decide_eq_true (show j < h.length by omega), setA_len, decide_eq_true (show 0 ≤ (k : Int) ∧ (k : Int) < (h.length : Int) by omega), decide_eq_true (show k < h.length by omega), succ64 hi hlen]
    exact hQ'
  · intro h Q _ hQ
    show (st_sa (p.length : Nat) l s t p h).sat Q
    unfold st_sa
    rw [decide_eq_false (show ¬ (p.length : Int) < (p.length : Int) by omega)]
    exact hQ
theorem l_sb : LoopOk Try.prog 11 (lbM 1) (loopSum L_sb E_sb fin_sb) := by
  refine loopOk_of (X := X_sm) (ctx_ok mixed puSm fns_nil) 7 11 (fun _ => none) (fun _ _ f h => by simp at h) L_sb E_sb (fun e => by cases e <;> exact Nat.le_refl _) fin_sb (fun g => st_sb g.1.1 g.1.2.1 g.1.2.2.1 g.1.2.2.2.1) e_sb ?_
  rintro ⟨⟨i, s, t, h, _⟩, _⟩ R hw ⟨⟨h1, h2, h3, h4⟩, hf⟩
  have hlen : (t.length : Int) ≤ maxK .i64 := by
    simp only [Lay.WF, L_sb, WFKs, WFK, WFD] at hw
    exact hw.1.2.2.1.1
  simp only at h1 h2 h3 h4 hf
  subst h1
  refine ⟨_, rnds_runL (L := L_sb) t (fun i _ => Bg i s t h) (fun _ _ _ => .inl ()) (fun _ => ⟨.exit 2, Bx⟩) (fun _ => True) ?_ ?_ t.length 0 () (by omega) trivial (by rw [List.drop_zero, run_allS]; exact hf)⟩
  · intro i _ hi Q _ _ hQ
    show (st_sb i s t h).sat Q
    have hQ' := hQ trivial
    have hi' : i < s.length := by omega
    obtain ⟨⟨k1, k2⟩, k3⟩ := h4 i hi'
    have ht : mAt t i = getA t i dM := by unfold mAt; rw [show (i : Int).toNat = i by omega]
    have hs : mAt s i = getA s i dM := by unfold mAt; rw [show (i : Int).toNat = i by omega]
    unfold st_sb
    rw [decide_eq_true (show (i : Int) < (t.length : Int) by omega), decide_eq_true (show 0 ≤ (i : Int) ∧ (i : Int) < (t.length : Int) by omega), decide_eq_true (show 0 ≤ (i : Int) ∧ (i : Int) < (s.length : Int) by omega), ht, hs, k1, k2, eqP_self, eqP_self,
      decide_eq_true (show 0 ≤ (i : Int) ∧ (i : Int) < (h.length : Int) by omega), show (i : Int).toNat = i by omega, decide_eq_true (show i < h.length by omega), succ64 hi hlen]
    rcases k3 with k3 | k3
    · rw [show getA h i (dflt .b) = true from k3]
      exact hQ'
    · rw [k3, eqP_self]
      cases getA h i (dflt .b) <;> exact hQ'
  · intro _ Q _ hQ
    show (st_sb (t.length : Nat) s t h).sat Q
    unfold st_sb
    rw [decide_eq_false (show ¬ (t.length : Int) < (t.length : Int) by omega)]
    exact hQ
/-! the law -/
noncomputable def X_contactSum : Ctx := ctxL Try.prog plSm [(11, Try.f11)] [((11, 12), loopSum L_sa E_sa fin_sa), ((11, 19), loopSum L_sb E_sb fin_sb)]
theorem X_contactSum_ok : CtxOk X_contactSum := by
  refine ctxL_ok mixed puSm (fns_cons is_ContactSum fns_nil) ?_
  intro p hp d hd g hg
  simp only [List.mem_singleton] at hp
  subst hp
  have hl : loopsOf (bodyOf Try.f11) = [lbM 0, lbM 1] := by kernel_rfl
  simp only at hd hg
  rw [hl] at hd
  simp only [List.mem_cons, List.not_mem_nil, or_false] at hd
  rcases hd with rfl | rfl
  · have hk : keyOf (lbM 0) = 12 := by kernel_rfl
    rw [hk] at hg
    simp [assoc2] at hg
    subst hg
    exact l_sa
  · have hk : keyOf (lbM 1) = 19 := by kernel_rfl
    rw [hk] at hg
    simp only [assoc2] at hg
    rw [show (Nat.beq 11 11 && Nat.beq 12 19) = false from rfl, show (Nat.beq 11 11 && Nat.beq 19 19) = true from rfl] at hg
    simp only [cond_false, cond_true, Option.some.injEq] at hg
    subst hg
    exact l_sb
def hit0 (l : List (TCT cBall)) : List Bool := List.replicate ((l.length : Int)).toNat false
def T_sum (l : List (TCT cBall)) (s : List (TCT cMot)) (u : RSet) (a b : RTot) : Tree Unit :=
  bif decide ((l.length : Int) > 8) then .leaf () else bif (s.length : Int) != (l.length : Int) then .leaf () else
  bif u.2.2.1 != 0 then bif (u.1.length : Int) == 0 then bif (u.2.1.length : Int) == 0 then .leaf () else .fail else .fail else
  bif a.2.1 != 0 then .fail else bif b.2.1 != 0 then .fail else bif !eqP a.1 b.1 then .fail else bif (u.1.length : Int) != (s.length : Int) then .fail else
  bif decide (0 ≤ (l.length : Int) ∧ (l.length : Int) ≤ (l.length : Int) ∧ (l.length : Int) ≤ 65536 ∧ 1 * (l.length : Int) ≤ 281474976710656) then
  .need (condA 0 l s u.2.1 (hit0 l)) (.need (condB 0 s u.1 (hitF u.2.1 (hit0 l))) (.leaf ())) else .fail
abbrev cs_contactSum : List TC := [.sl cBall, .sl cMot, cBnc]
def TY_sum (y : TCTs cs_contactSum) : Tree Unit := T_sum y.1 y.2.1 (SettleR y.1 y.2.1 y.2.2.1.1 y.2.2.1.2.1) (TotalR y.1 y.2.1) (TotalR y.1 (SettleR y.1 y.2.1 y.2.2.1.1 y.2.2.1.2.1).1)
theorem TY_sum_eq (y : TCTs cs_contactSum) : evFn X_contactSum 8 (.fn 11) (encAs cs_contactSum y) noHeap 0 lawK = TY_sum y := by kernel_rfl
theorem hit0_len (l : List (TCT cBall)) : (hit0 l).length = l.length := by unfold hit0; rw [List.length_replicate]; omega
theorem hitF_len : ∀ (p : List (TCT cPair)) (h : List Bool), (hitF p h).length = h.length
  | [], h => rfl
  | q :: p, h => by simp only [hitF]; rw [hitF_len p, hit2_len]
theorem hit2_keep {h : List Bool} {q : TCT cPair} {i : Nat} (k : getA h i false = true) : getA (hit2 h q) i false = true := by
  have hi : i < h.length := by
    rcases Nat.lt_or_ge i h.length with x | x
    · exact x
    · rw [getA_eq, List.getD_eq_getElem?_getD, List.getElem?_eq_none x] at k; simp at k
  unfold hit2
  rcases Nat.lt_or_ge (pk q).toNat (setA h (pj q).toNat true).length with a | a
  · rw [getA_set a]
    by_cases e : (pk q).toNat = i
    · rw [if_pos e]
    · rw [if_neg e]
      rcases Nat.lt_or_ge (pj q).toNat h.length with b | b
      · rw [getA_set b]
        by_cases e' : (pj q).toNat = i
        · rw [if_pos e']
        · rw [if_neg e']; exact k
      · rw [setA_eq, List.set_eq_of_length_le b]; exact k
  · rw [setA_eq (l := setA h (pj q).toNat true), List.set_eq_of_length_le a]
    rcases Nat.lt_or_ge (pj q).toNat h.length with b | b
    · rw [getA_set b]
      by_cases e' : (pj q).toNat = i
      · rw [if_pos e']
      · rw [if_neg e']; exact k
    · rw [setA_eq, List.set_eq_of_length_le b]; exact k
theorem hitF_keep : ∀ (p : List (TCT cPair)) (h : List Bool) {i : Nat}, getA h i false = true → getA (hitF p h) i false = true
  | [], _, _, k => k
  | q :: p, h, i, k => hitF_keep p (hit2 h q) (hit2_keep k)
theorem hitF_at : ∀ (p : List (TCT cPair)) (h : List Bool) {i : Nat}, i < h.length → (∃ q ∈ p, (∃ j k : Nat, q = ((j : Int), (k : Int), ()) ∧ j < h.length ∧ k < h.length) ∧ (pj q = (i : Int) ∨ pk q = (i : Int))) → getA (hitF p h) i false = true
  | [], _, _, _, k => by obtain ⟨q, hq, _⟩ := k; cases hq
  | q0 :: p, h, i, hi, ⟨q, hq, ⟨j, k, e, hj, hk⟩, hij⟩ => by
    rcases List.mem_cons.1 hq with rfl | hq'
    · refine hitF_keep p _ ?_
      subst e
      have ej : pj ((j : Int), (k : Int), ()) = (j : Int) := rfl
      have ek : pk ((j : Int), (k : Int), ()) = (k : Int) := rfl
      rw [ej, ek] at hij
      unfold hit2
      rw [ej, ek, show (j : Int).toNat = j by omega, show (k : Int).toNat = k by omega, getA_set (by rw [setA_len]; exact hk)]
      by_cases e1 : k = i
      · rw [if_pos e1]
      · rw [if_neg e1, getA_set hj, if_pos (by omega)]
    · exact hitF_at p (hit2 h q0) (by rw [hit2_len]; exact hi) ⟨q, hq', ⟨j, k, e, by rw [hit2_len]; exact hj, by rw [hit2_len]; exact hk⟩, hij⟩
theorem settle_err {l : List (TCT cBall)} {s : List (TCT cMot)} {re dr : Int} (h : (SettleR l s re dr).2.2.1 ≠ 0) : (SettleR l s re dr).1 = [] ∧ (SettleR l s re dr).2.1 = [] := by
  unfold SettleR at h ⊢
  revert h
  cases chkR l s != 0 with
  | true => intro _; exact ⟨rfl, rfl⟩
  | false => cases bncB re dr with
    | false => intro _; exact ⟨rfl, rfl⟩
    | true => cases okS (outR l re dr l.length 0 (s, [])) with
      | true => intro h; exact (h rfl).elim
      | false => intro _; exact ⟨rfl, rfl⟩
theorem total_ok {l : List (TCT cBall)} {s : List (TCT cMot)} (k1 : l.length ≤ 8) (k2 : l.length = s.length) (k3 : (l.zip s).all okBM = true) : TotalR l s = ((sumX s, sumY s, ()), 0, ()) := by
  unfold TotalR chkR
  rw [decide_eq_false (show ¬ (l.length : Int) > 8 by omega), show ((l.length : Int) != (s.length : Int)) = false by simp; omega, k3]
  rfl
theorem T_sum_ok (l : List (TCT cBall)) (s : List (TCT cMot)) (re dr : Int) : (T_sum l s (SettleR l s re dr) (TotalR l s) (TotalR l (SettleR l s re dr).1)).sat (fun _ => True) := by
  unfold T_sum
  cases decide ((l.length : Int) > 8) with
  | true => trivial
  | false => cases ((s.length : Int) != (l.length : Int)) with
    | true => trivial
    | false =>
      cases he : ((SettleR l s re dr).2.2.1 != 0) with
      | true =>
        have he' : (SettleR l s re dr).2.2.1 ≠ 0 := by simpa using he
        obtain ⟨e1, e2⟩ := settle_err he'
        rw [e1, e2]
        trivial
      | false =>
        have he' : (SettleR l s re dr).2.2.1 = 0 := by simpa using he
        obtain ⟨k1, k2, k3, I⟩ := settle_inv he'
        have hlen := I.len
        simp only at hlen
        have k4 : l.length = (SettleR l s re dr).1.length := k2.trans hlen.symm
        have k5 : (l.zip (SettleR l s re dr).1).all okBM = true := all_of_fit k4 (fun i hi => I.fit i (by rw [hlen] at hi; exact hi))
        rw [total_ok k1 k2 k3, total_ok k1 k4 k5, show sumX (SettleR l s re dr).1 = sumX s from I.sx, show sumY (SettleR l s re dr).1 = sumY s from I.sy, hlen, bne_self_eq_false, eqP_self, decide_eq_true (show 0 ≤ (l.length : Int) ∧ (l.length : Int) ≤ (l.length : Int) ∧ (l.length : Int) ≤ 65536 ∧ 1 * (l.length : Int) ≤ 281474976710656 by omega)]
        have h0 : (hit0 l).length = s.length := (hit0_len l).trans k2
        have hA : condA 0 l s (SettleR l s re dr).2.1 (hit0 l) := ⟨rfl, k2, h0, k3, I.prs⟩
        have hB : condB 0 s (SettleR l s re dr).1 (hitF (SettleR l s re dr).2.1 (hit0 l)) := by
          refine ⟨rfl, hlen, by rw [hitF_len]; exact h0, fun i hi => ⟨I.same i hi, ?_⟩⟩
          rcases I.hit i hi with ⟨p, hp, hpi⟩ | hh
          · left
            obtain ⟨j, k, e, hjk, hk, _⟩ := I.prs p hp
            exact hitF_at _ _ (by omega) ⟨p, hp, ⟨j, k, e, by omega, by omega⟩, hpi⟩
          · exact .inr hh
        rw [show ((s.length : Int) != (s.length : Int)) = false by simp]
        exact (show condA 0 l s (SettleR l s re dr).2.1 (hit0 l) ∧ (condB 0 s (SettleR l s re dr).1 (hitF (SettleR l s re dr).2.1 (hit0 l)) ∧ True) from ⟨hA, hB, trivial⟩)
theorem TY_sum_ok (y : TCTs cs_contactSum) (_ : WFDs cs_contactSum y) : (TY_sum y).sat (fun _ => True) := T_sum_ok _ _ _ _
theorem contactSum_sat : LawSat X_contactSum 11 cs_contactSum 8 := lawSat 8 TY_sum TY_sum_eq TY_sum_ok
end V
end Go.Proofs.Ytmmhbianajpdgaa
