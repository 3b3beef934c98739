/- Leave: the loop that looks for the least value. -/
import Derived.Test.YtdblbofagfhlbaaJa
namespace Go.Proofs.Ytdblbofagfhlbaa
open Go.RowKit
namespace V
noncomputable def lk_f : LK := { id := 1006, keys := [3, 4, 5, 6], ks := [.p 1001 0 0 0, .p 1002 0 0 0, .p 1003 0 0 0, .p 1004 0 0 0], n := 25, fn := 53, params := [10], assign := (rangeAt Try.f53 0).1, body := (rangeAt Try.f53 0).2, df := 1005, st := some 0 }
def bs_f : List BK := [(2, 24, [.d cI, .d cI]), (3, 25, [.d cI]), (7, 50, [.o 24 cC]), (1001, 89, [.f 54 [] [.p 7 0 0 0]]), (1002, 3, [.d cI]), (1003, 4, [.d .b]), (1004, 2, [.d cI])]
noncomputable def L_f : Lay2 := { keys := [0, 5, 6], ks := [.y 1006, .d cI, .d cI], bs := bs_f, ls := [lk_f], n := 14, nx := 9000, marks := [], ds := [1005] }
noncomputable def R_f : Lay2 := { keys := [], ks := [], bs := bs_f, ls := [lk_f], n := 14, nx := 9000, marks := [], ds := [1005] }
noncomputable def E_f : XE → Lay2 := fun _ => R_f
noncomputable def lb_f : Code := (loopsOf (bodyOf Try.f52)).getD 0 .skip
structure Cf where
  v1 : Int
  v2 : Int
  e : Int
  vs : List (TCT cC)
abbrev Sf : Type := Int × Bool × Int
def bsf (c : Cf) (s : Sf) : BTs bs_f := ((c.v1, c.v2, ()), (c.e, ()), (c.vs, ()), (((), (), ()), ()), (s.1, ()), (s.2.1, ()), (s.2.2, ()), ())
def lsf : LTs [lk_f] := (((((), (), (), (), ()) : SKTs lk_f.ks), ((() : Unit) : StT lk_f.st)), ())
def hd_f (c : Cf) (n i : Int) (s : Sf) : L_f.T := (((), n, i, ()), bsf c s, lsf)
def ex_f (c : Cf) (s : Sf) : Left2 E_f := ⟨.exit 0, ((), bsf c s, lsf)⟩
noncomputable def X_f : Ctx := ctxS Try.prog plEx [(53, Try.f53), (54, Try.f54)] [] spEx
theorem X_f_ok : CtxOk X_f := ctxS_ok mixed puEx (fns_cons is_firstI (fns_cons is_Leave2 fns_nil)) no_loops spEx_ok
def nF (vs : List (TCT cC)) (i : Int) : Int := W64 (0 - (getA vs i.toNat (dflt cC)).2.1)
def stepI (vs : List (TCT cC)) (s : Sf) (i : Int) : Sf := bif !s.2.1 then (i, true, nF vs i) else bif decide (nF vs i > s.2.2) then (i, true, nF vs i) else s
def st_f (c : Cf) (n i : Int) (s : Sf) : Tree (L_f.T ⊕ Left2 E_f) :=
  bif decide (i < n) then bif decide (0 ≤ i ∧ i < (c.vs.length : Int)) then bif decide (i.toNat < c.vs.length) then
    bif !s.2.1 then .need (selfL [lk_f]) (.leaf (.inl (hd_f c n (W64 (i + 1)) (i, true, nF c.vs i)))) else
    bif decide (nF c.vs i > s.2.2) then .need (selfL [lk_f]) (.leaf (.inl (hd_f c n (W64 (i + 1)) (i, true, nF c.vs i)))) else .need (selfL [lk_f]) (.leaf (.inl (hd_f c n (W64 (i + 1)) s)))
  else .fail else .fail else .need (selfL [lk_f]) (.leaf (.inr (ex_f c s)))
def cf (g : L_f.T) : Cf := ⟨g.2.1.1.1, g.2.1.1.2.1, g.2.1.2.1.1, g.2.1.2.2.1.1⟩
def sf (g : L_f.T) : Sf := (g.2.1.2.2.2.2.1.1, g.2.1.2.2.2.2.2.1.1, g.2.1.2.2.2.2.2.2.1.1)
theorem e_f (g : L_f.T) : evC Try.prog (evFn X_f 7) X_f.pures 52 X_f.u (fun _ => none) lb_f (L_f.of g) (stepOut2 L_f E_f) = st_f (cf g) g.1.2.1 g.1.2.2.1 (sf g) := by kernel_rfl
theorem foldO_some {S α : Type} (g : S → α → S) : ∀ (l : List α) (s : S), foldO (fun s x => some (g s x)) s l = some (l.foldl g s)
  | [], _ => rfl
  | x :: l, s => by simp only [foldO, Option.bind_some, List.foldl_cons]; exact foldO_some g l (g s x)
def allI (vs : List (TCT cC)) (s : Sf) : Sf := (List.range vs.length).foldl (fun s (k : Nat) => stepI vs s (k : Int)) s
def okI (n i : Int) (vs : List (TCT cC)) : Bool := decide (i = 0 ∧ n = (vs.length : Int) ∧ vs.length ≤ 1000)
def fin_f' (c : Cf) (n i : Int) (s : Sf) : Tree (Left2 E_f) := .br (okI n i c.vs) (.leaf (ex_f c ((allI c.vs s).1, (allI c.vs s).2.1, (allI c.vs s).2.2))) .fail
def fin_f (g : L_f.T) : Tree (Left2 E_f) := fin_f' (cf g) g.1.2.1 g.1.2.2.1 (sf g)
theorem l_f : LoopOk Try.prog 52 lb_f (loopSum2 L_f E_f fin_f) := by
  refine loopOk_of2 (X := X_f) X_f_ok 7 52 (fun _ => none) (fun _ _ f h => by simp at h) L_f E_f (fun _ => Nat.le_refl _) fin_f (fun g => st_f (cf g) g.1.2.1 g.1.2.2.1 (sf g)) e_f ?_
  rintro ⟨⟨⟨⟩, n, i, ⟨⟩⟩, ⟨⟨v1, v2, ⟨⟩⟩, ⟨e, ⟨⟩⟩, ⟨vs, ⟨⟩⟩, ⟨⟨⟨⟩, ⟨⟨⟩, ⟨⟩⟩⟩, ⟨⟩⟩, ⟨b, ⟨⟩⟩, ⟨k, ⟨⟩⟩, ⟨m, ⟨⟩⟩, ⟨⟩⟩, ⟨⟨⟨⟨⟩, ⟨⟩, ⟨⟩, ⟨⟩, ⟨⟩⟩, ⟨⟩⟩, ⟨⟩⟩⟩ R hw hf
  obtain ⟨hf, h0⟩ := hf
  change okI n i vs = true → R (ex_f ⟨v1, v2, e, vs⟩ (allI vs (b, k, m))) at hf
  change okI n i vs = false → False at h0
  cases hk : okI n i vs with
  | false => exact (h0 hk).elim
  | true =>
    have hf2 := hf hk
    obtain ⟨rfl, rfl, hn⟩ := of_decide_eq_true hk
    refine ⟨_, rnds2_foldO (List.range vs.length) (fun (i : Nat) s => hd_f ⟨v1, v2, e, vs⟩ vs.length (i : Int) s) (fun s (k : Nat) => some (stepI vs s (k : Int))) (ex_f ⟨v1, v2, e, vs⟩) ?_ ?_ (List.range vs.length).length 0 (b, k, m) (allI vs (b, k, m)) (by omega) (by rw [List.drop_zero]; exact foldO_some _ _ _) hf2⟩
    · intro i s s' hi Q _ hg hQ
      rw [List.length_range] at hi
      rw [List.getElem_range, Option.some.injEq] at hg
      subst hg
      show (st_f ⟨v1, v2, e, vs⟩ vs.length i s).sat Q
      unfold stepI at hQ
      unfold st_f
      rw [decide_eq_true (show (i : Int) < vs.length by omega), cond_true]
      rw [decide_eq_true (show 0 ≤ (i : Int) ∧ (i : Int) < vs.length by omega), cond_true]
      rw [decide_eq_true (show (i : Int).toNat < vs.length by omega), cond_true]
      rw [show W64 ((i : Int) + 1) = ((i + 1 : Nat) : Int) from (W64_id (by omega) (by omega))]
      cases hb : s.2.1 with
      | false => rw [hb] at hQ; exact ⟨selfL_ok _, hQ⟩
      | true =>
        rw [hb] at hQ
        cases hd : decide (nF vs i > s.2.2) with
        | true => rw [hd] at hQ; exact ⟨selfL_ok _, hQ⟩
        | false => rw [hd] at hQ; exact ⟨selfL_ok _, hQ⟩
    · intro s Q hQ
      show (st_f ⟨v1, v2, e, vs⟩ vs.length ((List.range vs.length).length : Int) s).sat Q
      unfold st_f
      rw [List.length_range, decide_eq_false (show ¬ (vs.length : Int) < vs.length by omega)]
      exact ⟨selfL_ok _, hQ⟩
/-! Leave -/
noncomputable def loops_Lv : List ((Nat × Nat) × (St → Tree (XE × St))) := [((21, 9), loopSum L_lv E_lv fin_lv), ((52, 1), loopSum2 L_f E_f fin_f)]
noncomputable def X_Lv : Ctx := ctxS Try.prog plEx [(21, Try.f21), (48, Try.f48), (85, Try.f85), (47, Try.f47), (53, Try.f53), (52, Try.f52), (54, Try.f54)] loops_Lv spEx
abbrev TLv := Tree (TCTs [cI, cC, cI])
def bad_Lv (e : Int) : TLv := .leaf (0, (0, 0, ()), e, ())
def vs_Lv (b : TCT cB) (l : List (TCT cSc)) : List (TCT cC) := (gX s0_lv (all_lv b l ([], no0))).1
def at_Lv (vs : List (TCT cC)) : Int := (allI vs (0, false, 0)).1
def T_Lv (b : TCT cB) (l : List (TCT cSc)) : TLv := bif boardF b != 0 then bad_Lv (boardF b) else
  bif (l.length : Int) == 0 then bad_Lv 5 else bif decide ((l.length : Int) > 64) then bad_Lv 6 else
  bif atHead (l.length : Int) 0 l && (all_lv b l ([], no0)).isSome then bif okX (all_lv b l ([], no0)) then
    .need (selfL [lk_f]) (bif okI (l.length : Int) 0 (vs_Lv b l) then bif decide (0 ≤ at_Lv (vs_Lv b l) ∧ at_Lv (vs_Lv b l) < ((vs_Lv b l).length : Int)) then bif decide ((at_Lv (vs_Lv b l)).toNat < (vs_Lv b l).length) then
      .leaf (at_Lv (vs_Lv b l), ((getA (vs_Lv b l) (at_Lv (vs_Lv b l)).toNat (dflt cC)).1, (getA (vs_Lv b l) (at_Lv (vs_Lv b l)).toNat (dflt cC)).2.1, ()), 0, ()) else .fail else .fail else .fail)
  else bad_Lv 3 else .fail
theorem T_Lv_eq (x : TCTs [cB, cScs]) : evFn X_Lv 8 (.fn 21) (encAs [cB, cScs] x) noHeap 0 (outK Try.prog [cI, cC, cI]) = T_Lv x.1 x.2.1 := by kernel_rfl
end V
end Go.Proofs.Ytdblbofagfhlbaa
