import Derived.Test.YtkiaifmbbnnliaaGreatUh
import Derived.Test.YtkiaifmbbnnliaaGreatVC
namespace Go.Proofs.YtkiaifmbbnnliaaGreat
open Go.RowKit
namespace V
theorem is_lcheck : FnIs Tryz.prog (151, Tryz.f151) := ⟨Tryz.func151, by kernel_rfl, by kernel_rfl⟩
theorem succ64 {i n : Nat} (h : i < n) (hn : (n : Int) ≤ maxK .i64) : W64 ((i : Int) + 1) = ((i + 1 : Nat) : Int) := by
  simp only [maxK] at hn
  rw [show W64 ((i : Int) + 1) = (i : Int) + 1 from wrap_id (by omega) (by omega)]; rfl
def okBM (p : TCT cBall × TCT cMot) : Bool := (bm p.1 p.2).ok
noncomputable def lb_ck : Code := (loopsOf (bodyOf Tryz.f151)).getD 0 .skip
def L_ck : Lay := { keys := [0, 1, 4, 18, 19, 20], ks := [.d (.sl cBall), .d (.sl cMot), .d cI, .d (.sl cBall), .d cI, .d cI], bs := [], n := 35, nx := 1000, marks := [] }
def R_ck : Lay := { keys := [4], ks := [.d cI], bs := [], n := 35, nx := 1000, marks := [] }
def E_ck : XE → Lay := fun _ => R_ck
def Cg (l : List (TCT cBall)) (s : List (TCT cMot)) (e : Int) (l' : List (TCT cBall)) (n i : Int) : L_ck.T := ((l, s, e, l', n, i, ()), ())
def Cr (e : Int) : R_ck.T := ((e, ()), ())
def okAt (l : List (TCT cBall)) (s : List (TCT cMot)) (i : Int) : Bool := okBM (getA l i.toNat (dflt cBall), getA s i.toNat (dflt cMot))
def st_ck (l : List (TCT cBall)) (s : List (TCT cMot)) (e : Int) (l' : List (TCT cBall)) (n i : Int) : Tree (L_ck.T ⊕ Left' E_ck) :=
  bif decide (i < n) then bif decide (0 ≤ i ∧ i < (l'.length : Int)) then bif decide (0 ≤ i ∧ i < (s.length : Int)) then
    bif okE (okAt l' s i) != 0 then .leaf (.inr ⟨.ret, Cr (okE (okAt l' s i))⟩) else .leaf (.inl (Cg l s e l' n (W64 (i + 1)))) else .fail else .fail else .leaf (.inr ⟨.exit 1, Cr e⟩)
def fin_ck (g : L_ck.T) : Tree (Left' E_ck) :=
  .br (decide (g.1.2.2.2.2.1 = (g.1.2.2.2.1.length : Int) ∧ g.1.2.2.2.1.length = g.1.2.1.length ∧ g.1.2.2.2.2.2.1 = 0)) (.br ((g.1.2.2.2.1.zip g.1.2.1).all okBM) (.leaf ⟨.exit 1, Cr g.1.2.2.1⟩) (.leaf ⟨.ret, Cr 2⟩)) .fail
def f_ck (p : TCT cBall × TCT cMot) (_ : Nat) (_ : Unit) : Unit ⊕ Left' E_ck := bif okBM p then .inl () else .inr ⟨.ret, Cr 2⟩
theorem run_ck (e : Int) : ∀ (l : List (TCT cBall × TCT cMot)) (i : Nat), runL f_ck (fun _ => (⟨.exit 1, Cr e⟩ : Left' E_ck)) l i () = bif l.all okBM then ⟨.exit 1, Cr e⟩ else ⟨.ret, Cr 2⟩
  | [], i => rfl
  | p :: l, i => by
    simp only [runL, f_ck, List.all_cons]
    cases okBM p with
    | false => rfl
    | true => exact run_ck e l (i + 1)
theorem zip_at {α β : Type} {l : List α} {s : List β} {i : Nat} (h : i < (l.zip s).length) (h1 : i < l.length) (h2 : i < s.length) (d : α) (e : β) : (l.zip s)[i] = (getA l i d, getA s i e) := by
  rw [List.getElem_zip, getA_lt h1, getA_lt h2]
theorem l_ck : LoopOk Tryz.prog 151 lb_ck (loopSum L_ck E_ck fin_ck) := by
  refine loopOk_of (X := ctx Tryz.prog plK []) (ctx_ok mixed puK fns_nil) 7 151 (fun _ => none) (fun _ _ f h => by simp at h) L_ck E_ck (fun _ => Nat.le_refl _) fin_ck (fun g => st_ck g.1.1 g.1.2.1 g.1.2.2.1 g.1.2.2.2.1 g.1.2.2.2.2.1 g.1.2.2.2.2.2.1) (fun g => by kernel_rfl) ?_
  rintro ⟨⟨l0, s, e, l, n, i, ⟨⟩⟩, ⟨⟩⟩ R hw hf
  obtain ⟨hf, h0⟩ := hf
  by_cases hc : n = (l.length : Int) ∧ l.length = s.length ∧ i = 0
  · obtain ⟨rfl, hls, rfl⟩ := hc
    have hf := hf (decide_eq_true ⟨rfl, hls, rfl⟩)
    have hlen : (l.length : Int) ≤ maxK .i64 := by
      simp only [Lay.WF, L_ck, WFKs, WFK, WFD] at hw
      exact hw.1.2.2.2.1.1
    have hz : (l.zip s).length = l.length := by rw [List.length_zip, ← hls, Nat.min_self]
    refine ⟨_, rnds_runL (l.zip s) (fun i _ => Cg l0 s e l l.length i) f_ck (fun _ => ⟨.exit 1, Cr e⟩) (fun _ => True) ?_ ?_ (l.zip s).length 0 () (by omega) trivial ?_⟩
    · intro i _ hi Q _ _ hQ
      have h1 : i < l.length := by omega
      have h2 : i < s.length := by omega
      show (st_ck l0 s e l l.length i).sat Q
      unfold st_ck okAt
      rw [decide_eq_true (show (i : Int) < l.length by omega), decide_eq_true (show 0 ≤ (i : Int) ∧ (i : Int) < l.length by omega), decide_eq_true (show 0 ≤ (i : Int) ∧ (i : Int) < s.length by omega), succ64 h1 hlen]
      have ht : (i : Int).toNat = i := by omega
      rw [zip_at hi h1 h2 (dflt cBall) (dflt cMot)] at hQ
      rw [ht]
      unfold f_ck at hQ
      cases hk : okBM (getA l i (dflt cBall), getA s i (dflt cMot)) with
      | true => rw [hk] at hQ; exact hQ trivial
      | false => rw [hk] at hQ; exact hQ
    · intro _ Q _ hQ
      show (st_ck l0 s e l l.length ((l.zip s).length : Nat)).sat Q
      rw [hz]
      unfold st_ck
      rw [decide_eq_false (show ¬ (l.length : Int) < l.length by omega)]
      exact hQ
    · rw [List.drop_zero, run_ck]
      obtain ⟨h1, h2⟩ := hf
      cases ha : (l.zip s).all okBM with
      | true => exact h1 ha
      | false => exact h2 ha
  · exact (h0 (decide_eq_false hc)).elim
def chkR (l : List (TCT cBall)) (s : List (TCT cMot)) : Int := bif decide ((l.length : Int) > 8) then 6 else bif (l.length : Int) != (s.length : Int) then 17 else okE ((l.zip s).all okBM)
abbrev s_lcheck : PureT := spec [.sl cBall, .sl cMot] [cI] (fun _ => true) (fun x => (chkR x.1 x.2.1, ()))
noncomputable def X_lcheck : Ctx := ctxL Tryz.prog plK [(151, Tryz.f151)] [((151, 6), loopSum L_ck E_ck fin_ck)]
theorem X_lcheck_ok : CtxOk X_lcheck := ctxL_ok mixed puK (fns_cons is_lcheck fns_nil) (loops_one (by kernel_rfl) (by kernel_rfl) l_ck)
def T_lcheck (l : List (TCT cBall)) (s : List (TCT cMot)) : Tree (TCTs [cI]) :=
  bif decide ((l.length : Int) > 8) then .leaf (6, ()) else bif (l.length : Int) != (s.length : Int) then .leaf (17, ()) else
  bif decide ((l.length : Int) = (l.length : Int) ∧ l.length = s.length ∧ (0 : Int) = 0) then bif (l.zip s).all okBM then .leaf (0, ()) else .leaf (2, ()) else .fail
theorem T_lcheck_ok (l : List (TCT cBall)) (s : List (TCT cMot)) : (T_lcheck l s).sat (fun y => y = (chkR l s, ())) := by
  unfold T_lcheck chkR
  cases decide ((l.length : Int) > 8) with
  | true => exact rfl
  | false =>
    cases h : ((l.length : Int) != (s.length : Int)) with
    | true => exact rfl
    | false =>
      have h' : l.length = s.length := by have : (l.length : Int) = (s.length : Int) := by simpa using h
                                          omega
      rw [decide_eq_true (show (l.length : Int) = (l.length : Int) ∧ l.length = s.length ∧ (0 : Int) = 0 from ⟨rfl, h', rfl⟩)]
      cases (l.zip s).all okBM <;> exact rfl
theorem q_lcheck : PureOk Tryz.prog 151 s_lcheck := q_by X_lcheck_ok 3 (fun x => T_lcheck x.1 x.2.1) (fun x => by kernel_rfl) fun _ _ _ => T_lcheck_ok _ _
end V
end Go.Proofs.YtkiaifmbbnnliaaGreat
