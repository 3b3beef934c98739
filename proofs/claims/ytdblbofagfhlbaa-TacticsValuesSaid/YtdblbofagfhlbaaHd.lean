/- The law TacticsLists: for all arguments it returns true. -/
import Derived.Test.YtdblbofagfhlbaaHb
namespace Go.Proofs.Ytdblbofagfhlbaa
open Go.RowKit
namespace V
theorem is_TacticsLists : FnIs Try.prog (7, Try.f7) := ⟨Try.func7, by kernel_rfl, by kernel_rfl⟩
theorem is_within : FnIs Try.prog (20, Try.f20) := ⟨Try.func20, by kernel_rfl, by kernel_rfl⟩
abbrev cU8 : TC := .i .u8
noncomputable def lb_tl : Code := (loopsOf (bodyOf Try.f7)).getD 0 .skip
def L_tl : Lay := { keys := [0, 1, 5, 7, 9, 11, 12], ks := [.d cCs, .d (.sl cU8), .p 0 0 0 0, .p 1 0 0 0, .p 2 0 0 0, .o 24 cC, .d cI], bs := [bC 0, bC 1, bC 2], n := 217, nx := 1000, marks := [] }
def R_tl : Lay := { keys := [0, 5, 7, 9, 11], ks := [.d cCs, .p 0 0 0 0, .p 1 0 0 0, .p 2 0 0 0, .o 24 cC], bs := [bC 0, bC 1, bC 2], n := 217, nx := 1000, marks := [] }
def E_tl : XE → Lay := fun _ => R_tl
def B3 : Type := TCT cC × TCT cC × TCT cC × Unit
def hd_tl (b : BTs L_tl.bs) (l : List (TCT cC)) (q : List Int) (i : Int) (o : List (TCT cC)) : L_tl.T := ((l, q, (), (), (), o, i, ()), b)
def ex_tl (b : BTs L_tl.bs) (l : List (TCT cC)) (o : List (TCT cC)) : Left' E_tl := ⟨.exit 0, ((l, (), (), (), o, ()), b)⟩
abbrev s_within : PureT := spec [cC, cC] [.b] (fun _ => true) (fun x => (decide (x.2.1.1 ≤ x.1.1) && decide (x.1.2.1 ≤ x.2.1.2.1), ()))
def T_within (a b c d : Int) : Tree (Bool × Unit) := bif decide (c ≤ a) then .leaf (decide (b ≤ d), ()) else .leaf (false, ())
theorem T_within_ok (a b c d : Int) : (T_within a b c d).sat (fun y => y = (decide (c ≤ a) && decide (b ≤ d), ())) := by
  unfold T_within
  cases decide (c ≤ a) <;> exact rfl
theorem q_within : PureOk Try.prog 20 s_within := q_by (ctx_ok mixed puOk_nil (fns_cons is_within fns_nil)) 2 (fun x => T_within x.1.1 x.1.2.1 x.2.1.1 x.2.1.2.1) (fun x => by kernel_rfl) fun _ _ _ => T_within_ok _ _ _ _
def plHd : List (Nat × PureT) := [(23, s_All),(25, s_Any),(20, s_within),(13, s_fine)]
theorem puHd : PuOk Try.prog plHd := puOk_cons is_tAll.plain q_All (puOk_cons is_tAny.plain q_Any (puOk_cons is_within.plain q_within (puOk_cons is_fine.plain q_fine puOk_nil)))
def sc (w p : Int) : Int := W64 (Int.tdiv (W64 (w * W64 p)) 255)
def cut (x : TCT cC) (p q : Int) : TCT cC := (W64 (x.1 + min (sc (W64 (x.2.1 - x.1)) p) (sc (W64 (x.2.1 - x.1)) q)), W64 (x.1 + max (sc (W64 (x.2.1 - x.1)) p) (sc (W64 (x.2.1 - x.1)) q)), ())
def iA (i : Int) : Int := W64 (2 * i)
def iB (i : Int) : Int := W64 (W64 (2 * i) + 1)
def eC (q : List Int) (i : Int) (x : TCT cC) : TCT cC := bif decide (iB i < (q.length : Int)) then cut x (getA q (iA i).toNat (0 : Int)) (getA q (iB i).toNat (0 : Int)) else x
def body_tl (b : BTs L_tl.bs) (l : List (TCT cC)) (q : List Int) (x : TCT cC) (i : Int) (o : List (TCT cC)) : Tree (L_tl.T ⊕ Left' E_tl) :=
  bif decide (iB i < (q.length : Int)) then bif decide (0 ≤ iA i ∧ iA i < (q.length : Int)) then bif decide (0 ≤ iB i ∧ iB i < (q.length : Int)) then
    bif decide (0 ≤ i ∧ i < (l.length : Int)) then bif decide (0 ≤ i ∧ i < (l.length : Int)) then
    bif appOk o [cut x (getA q (iA i).toNat (0 : Int)) (getA q (iB i).toNat (0 : Int))] 16 then .leaf (.inl (hd_tl b l q (W64 (i + 1)) (o ++ [cut x (getA q (iA i).toNat (0 : Int)) (getA q (iB i).toNat (0 : Int))]))) else .fail else .fail else .fail else .fail else .fail
  else bif appOk o [x] 16 then .leaf (.inl (hd_tl b l q (W64 (i + 1)) (o ++ [x]))) else .fail
def st_tl (b : BTs L_tl.bs) (l : List (TCT cC)) (q : List Int) (i : Int) (o : List (TCT cC)) : Tree (L_tl.T ⊕ Left' E_tl) :=
  bif decide (i < (l.length : Int)) then bif decide (0 ≤ i ∧ i < (l.length : Int)) then body_tl b l q (getA l i.toNat (dflt cC)) i o else .fail else .leaf (.inr (ex_tl b l o))
def gF (q : List Int) (s : List (TCT cC)) (x : TCT cC) : List (TCT cC) := s ++ [eC q s.length x]
def mF (q : List Int) (l : List (TCT cC)) : List (TCT cC) := l.foldl (gF q) []
def fin_tl (g : L_tl.T) : Tree (Left' E_tl) :=
  .br (decide (g.1.2.2.2.2.2.2.1 = 0) && (shortL g.1.1 && isNil g.1.2.2.2.2.2.1)) (.leaf (ex_tl g.2 g.1.1 (mF g.1.2.1 g.1.1))) .fail
theorem iAB {i : Int} (h0 : 0 ≤ i) (h : i ≤ 1000) : iA i = 2 * i ∧ iB i = 2 * i + 1 := by
  unfold iA iB
  rw [W64_id (n := 2 * i) (by omega) (by omega), W64_id (n := 2 * i + 1) (by omega) (by omega)]
  exact ⟨rfl, rfl⟩
theorem l_tl : LoopOk Try.prog 7 lb_tl (loopSum L_tl E_tl fin_tl) := by
  refine loopOk_of (X := ctx Try.prog plHd []) (ctx_ok mixed puHd fns_nil) 7 7 (fun _ => none) (fun _ _ f h => by simp at h) L_tl E_tl (fun _ => Nat.le_refl _) fin_tl (fun g => st_tl g.2 g.1.1 g.1.2.1 g.1.2.2.2.2.2.2.1 g.1.2.2.2.2.2.1) (fun g => by kernel_rfl) ?_
  rintro ⟨⟨l, q, ⟨⟩, ⟨⟩, ⟨⟩, m, i, ⟨⟩⟩, b⟩ R hw hf
  obtain ⟨hf, h0⟩ := hf
  by_cases hc : i = 0 ∧ shortL l = true ∧ m = []
  · obtain ⟨rfl, hs, rfl⟩ := hc
    have hf := hf (by simp only [hs, isNil, Bool.and_true]; rfl)
    have hs := of_decide_eq_true hs
    refine forFold l (dflt cC) (wfl_len hw.1.1) (fun _ i o => hd_tl b l q i o) (gF q) (ex_tl b l) (fun i o => o.length = i) (fun x i o => body_tl b l q x i o) (fun i o => rfl) ?_ [] rfl hf
    intro i o hi Q ho _ hw1 hQ
    have hQ := hQ (by simp [gF, ho])
    obtain ⟨eA, eB⟩ := iAB (i := (i : Int)) (by omega) (by omega)
    unfold gF eC at hQ
    rw [ho] at hQ
    show (body_tl b l q l[i] i o).sat Q
    unfold body_tl
    rw [hw1, decide_eq_true (show 0 ≤ (i : Int) ∧ (i : Int) < l.length by omega)]
    cases hb : decide (iB i < (q.length : Int)) with
    | true =>
      rw [hb] at hQ
      have hb := of_decide_eq_true hb
      rw [decide_eq_true (show 0 ≤ iA i ∧ iA i < (q.length : Int) by omega), decide_eq_true (show 0 ≤ iB i ∧ iB i < (q.length : Int) by omega), app16 (by omega)]
      exact hQ
    | false =>
      rw [hb] at hQ
      rw [cond_false, app16 (by omega)]
      exact hQ
  · refine (h0 ?_).elim
    simp only []
    cases h1 : shortL l <;> cases m <;> simp_all [isNil]
noncomputable def X_tacticsLists : Ctx := ctxL Try.prog plHd [(7, Try.f7)] [((7, keyOf lb_tl), loopSum L_tl E_tl fin_tl)]
theorem X_tacticsLists_ok : CtxOk X_tacticsLists := ctxL_ok mixed puHd (fns_cons is_TacticsLists fns_nil) (loops_one rfl (by kernel_rfl) l_tl)
end V
end Go.Proofs.Ytdblbofagfhlbaa
