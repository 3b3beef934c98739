import Derived.Test.YtkiaifmbbnnliaaGreatUh
import Derived.Test.YtkiaifmbbnnliaaGreatVC
namespace Go.Proofs.YtkiaifmbbnnliaaGreat
open Go.RowKit
namespace V
theorem is_lcheck : FnIs Tryz.prog (151, Tryz.f151) := ⟨Tryz.func151, by kernel_rfl, by kernel_rfl⟩
theorem is_rlists : FnIs Tryz.prog (157, Tryz.f157) := ⟨Tryz.func157, by kernel_rfl, by kernel_rfl⟩
theorem An6 {i n : Nat} (h : i < n) (hn : (n : Int) ≤ As .i64) : W64 ((i : Int) + 1) = ((i + 1 : Nat) : Int) := by
 simp only [As] at hn
 rw [show W64 ((i : Int) + 1) = (i : Int) + 1 from A6 (by omega) (by omega)]; rfl
def Iu (p : TCT A3 × TCT Ai) : Bool := (bm p.1 p.2).ok
noncomputable def B6f : Code := (A8 (bodyOf Tryz.f151)).getD 0 .skip
noncomputable def B1i : Code := (A8 (bodyOf Tryz.f157)).getD 0 .skip
def A9u : Lay := { keys := [0, 1, 4, 18, 19, 20], ks := [.d (.sl A3), .d (.sl Ai), .d cI, .d (.sl A3), .d cI, .d cI], bs := [], n := 35, nx := 1000, marks := [] }
def B6g : Lay := { keys := [4], ks := [.d cI], bs := [], n := 35, nx := 1000, marks := [] }
def A9v : XE → Lay := fun _ => B6g
def Cg (l : List (TCT A3)) (s : List (TCT Ai)) (e : Int) (l' : List (TCT A3)) (n i : Int) : A9u.T := ((l, s, e, l', n, i, ()), ())
def Cr (e : Int) : B6g.T := ((e, ()), ())
def An7 (l : List (TCT A3)) (s : List (TCT Ai)) (i : Int) : Bool := Iu (Aq l i.toNat (Ao A3), Aq s i.toNat (Ao Ai))
def A5s (l : List (TCT A3)) (s : List (TCT Ai)) (e : Int) (l' : List (TCT A3)) (n i : Int) : Tree (A9u.T ⊕ A1 A9v) :=
 bif decide (i < n) then bif decide (0 ≤ i ∧ i < (l'.length : Int)) then bif decide (0 ≤ i ∧ i < (s.length : Int)) then
  bif okE (An7 l' s i) != 0 then .leaf (.inr ⟨.ret, Cr (okE (An7 l' s i))⟩) else .leaf (.inl (Cg l s e l' n (W64 (i + 1)))) else .fail else .fail else .leaf (.inr ⟨.exit 1, Cr e⟩)
def A9w (g : A9u.T) : Tree (A1 A9v) :=
 .br (decide (g.1.2.2.2.2.1 = (g.1.2.2.2.1.length : Int) ∧ g.1.2.2.2.1.length = g.1.2.1.length ∧ g.1.2.2.2.2.2.1 = 0)) (.br ((g.1.2.2.2.1.zip g.1.2.1).all Iu) (.leaf ⟨.exit 1, Cr g.1.2.2.1⟩) (.leaf ⟨.ret, Cr 2⟩)) .fail
def Auc (p : TCT A3 × TCT Ai) (_ : Nat) (_ : Unit) : Unit ⊕ A1 A9v := bif Iu p then .inl () else .inr ⟨.ret, Cr 2⟩
theorem An8 (e : Int) : ∀ (l : List (TCT A3 × TCT Ai)) (i : Nat), Ys Auc (fun _ => (⟨.exit 1, Cr e⟩ : A1 A9v)) l i () = bif l.all Iu then ⟨.exit 1, Cr e⟩ else ⟨.ret, Cr 2⟩
 | [], i => rfl
 | p :: l, i => by
  simp only [Ys, Auc, List.all_cons]
  cases Iu p with
  | false => rfl
  | true => exact An8 e l (i + 1)
theorem An9 {α β : Type} {l : List α} {s : List β} {i : Nat} (h : i < (l.zip s).length) (h1 : i < l.length) (h2 : i < s.length) (d : α) (e : β) : (l.zip s)[i] = (Aq l i d, Aq s i e) := by
 rw [List.getElem_zip, E5 h1, E5 h2]
theorem B9q : Aj Tryz.prog 151 B6f (Ac A9u A9v A9w) := by
 refine Dc (X := ctx Tryz.prog plK []) (Ad Ab puK A2) 7 151 (fun _ => none) (fun _ _ f h => by simp at h) A9u A9v (fun _ => Nat.le_refl _) A9w (fun g => A5s g.1.1 g.1.2.1 g.1.2.2.1 g.1.2.2.2.1 g.1.2.2.2.2.1 g.1.2.2.2.2.2.1) (fun g => by kernel_rfl) ?_
 rintro ⟨⟨l0, s, e, l, n, i, ⟨⟩⟩, ⟨⟩⟩ R hw hf
 obtain ⟨hf, h0⟩ := hf
 by_cases hc : n = (l.length : Int) ∧ l.length = s.length ∧ i = 0
 ·obtain ⟨rfl, hls, rfl⟩ := hc
  have hf := hf (decide_eq_true ⟨rfl, hls, rfl⟩)
  have hlen : (l.length : Int) ≤ As .i64 := by
   simp only [Lay.WF, A9u, WFKs, WFK, WFD] at hw
   exact hw.1.2.2.2.1.1
  have hz : (l.zip s).length = l.length := by rw [List.length_zip, ← hls, Nat.min_self]
  refine ⟨_, Nn (l.zip s) (fun i _ => Cg l0 s e l l.length i) Auc (fun _ => ⟨.exit 1, Cr e⟩) (fun _ => True) ?_ ?_ (l.zip s).length 0 () (by omega) trivial ?_⟩
  ·intro i _ hi Q _ _ hQ
   have h1 : i < l.length := by omega
   have h2 : i < s.length := by omega
   show (A5s l0 s e l l.length i).sat Q
   unfold A5s An7
   rw [decide_eq_true (show (i : Int) < l.length by omega), decide_eq_true (show 0 ≤ (i : Int) ∧ (i : Int) < l.length by omega), decide_eq_true (show 0 ≤ (i : Int) ∧ (i : Int) < s.length by omega), An6 h1 hlen]
   have ht : (i : Int).toNat = i := by omega
   rw [An9 hi h1 h2 (Ao A3) (Ao Ai)] at hQ
   rw [ht]
   unfold Auc at hQ
   cases hk : Iu (Aq l i (Ao A3), Aq s i (Ao Ai)) with
   | true => rw [hk] at hQ; exact hQ trivial
   | false => rw [hk] at hQ; exact hQ
  ·intro _ Q _ hQ
   show (A5s l0 s e l l.length ((l.zip s).length : Nat)).sat Q
   rw [hz]
   unfold A5s
   rw [decide_eq_false (show ¬ (l.length : Int) < l.length by omega)]
   exact hQ
  ·rw [List.drop_zero, An8]
   obtain ⟨h1, h2⟩ := hf
   cases ha : (l.zip s).all Iu with
   | true => exact h1 ha
   | false => exact h2 ha
 ·exact (h0 (decide_eq_false hc)).elim
def A9x : Lay := { keys := [0, 1, 4, 5], ks := [.d (.sl A3), .d (.sl Ai), .d cI, .d cI], bs := [], n := 30, nx := 1000, marks := [] }
def B6h : Lay := { keys := [4], ks := [.d cI], bs := [], n := 30, nx := 1000, marks := [] }
def A9y : XE → Lay := fun _ => B6h
def Dg (l : List (TCT A3)) (s : List (TCT Ai)) (e i : Int) : A9x.T := ((l, s, e, i, ()), ())
def Dr (e : Int) : B6h.T := ((e, ()), ())
def A5t (l : List (TCT A3)) (s : List (TCT Ai)) (e i : Int) : Tree (A9x.T ⊕ A1 A9y) :=
 bif decide (i < (l.length : Int)) then bif decide (0 ≤ i ∧ i < (l.length : Int)) then bif decide (0 ≤ i ∧ i < (s.length : Int)) then
  bif okE (An7 l s i) != 0 then .leaf (.inr ⟨.ret, Dr 2⟩) else .leaf (.inl (Dg l s e (W64 (i + 1)))) else .fail else .fail else .leaf (.inr ⟨.exit 0, Dr e⟩)
def A9z (g : A9x.T) : Tree (A1 A9y) :=
 .br (decide (g.1.1.length = g.1.2.1.length ∧ g.1.2.2.2.1 = 0)) (.br ((g.1.1.zip g.1.2.1).all Iu) (.leaf ⟨.exit 0, Dr g.1.2.2.1⟩) (.leaf ⟨.ret, Dr 2⟩)) .fail
def Aud (p : TCT A3 × TCT Ai) (_ : Nat) (_ : Unit) : Unit ⊕ A1 A9y := bif Iu p then .inl () else .inr ⟨.ret, Dr 2⟩
theorem Ana (e : Int) : ∀ (l : List (TCT A3 × TCT Ai)) (i : Nat), Ys Aud (fun _ => (⟨.exit 0, Dr e⟩ : A1 A9y)) l i () = bif l.all Iu then ⟨.exit 0, Dr e⟩ else ⟨.ret, Dr 2⟩
 | [], i => rfl
 | p :: l, i => by
  simp only [Ys, Aud, List.all_cons]
  cases Iu p with
  | false => rfl
  | true => exact Ana e l (i + 1)
theorem B9r : Aj Tryz.prog 157 B1i (Ac A9x A9y A9z) := by
 refine Dc (X := ctx Tryz.prog Aoo []) (Ad Ab Aop A2) 7 157 (fun _ => none) (fun _ _ f h => by simp at h) A9x A9y (fun _ => Nat.le_refl _) A9z (fun g => A5t g.1.1 g.1.2.1 g.1.2.2.1 g.1.2.2.2.1) (fun g => by kernel_rfl) ?_
 rintro ⟨⟨l, s, e, i, ⟨⟩⟩, ⟨⟩⟩ R hw hf
 obtain ⟨hf, h0⟩ := hf
 by_cases hc : l.length = s.length ∧ i = 0
 ·obtain ⟨hls, rfl⟩ := hc
  have hf := hf (decide_eq_true ⟨hls, rfl⟩)
  have hlen : (l.length : Int) ≤ As .i64 := by
   simp only [Lay.WF, A9x, WFKs, WFK, WFD] at hw
   exact hw.1.1.1
  have hz : (l.zip s).length = l.length := by rw [List.length_zip, ← hls, Nat.min_self]
  refine ⟨_, Nn (l.zip s) (fun i _ => Dg l s e i) Aud (fun _ => ⟨.exit 0, Dr e⟩) (fun _ => True) ?_ ?_ (l.zip s).length 0 () (by omega) trivial ?_⟩
  ·intro i _ hi Q _ _ hQ
   have h1 : i < l.length := by omega
   have h2 : i < s.length := by omega
   show (A5t l s e i).sat Q
   unfold A5t An7
   rw [decide_eq_true (show (i : Int) < l.length by omega), decide_eq_true (show 0 ≤ (i : Int) ∧ (i : Int) < l.length by omega), decide_eq_true (show 0 ≤ (i : Int) ∧ (i : Int) < s.length by omega), An6 h1 hlen]
   have ht : (i : Int).toNat = i := by omega
   rw [An9 hi h1 h2 (Ao A3) (Ao Ai)] at hQ
   rw [ht]
   unfold Aud at hQ
   cases hk : Iu (Aq l i (Ao A3), Aq s i (Ao Ai)) with
   | true => rw [hk] at hQ; exact hQ trivial
   | false => rw [hk] at hQ; exact hQ
  ·intro _ Q _ hQ
   show (A5t l s e ((l.zip s).length : Nat)).sat Q
   rw [hz]
   unfold A5t
   rw [decide_eq_false (show ¬ (l.length : Int) < l.length by omega)]
   exact hQ
  ·rw [List.drop_zero, Ana]
   obtain ⟨h1, h2⟩ := hf
   cases ha : (l.zip s).all Iu with
   | true => exact h1 ha
   | false => exact h2 ha
 ·exact (h0 (decide_eq_false hc)).elim
def I4 (l : List (TCT A3)) (s : List (TCT Ai)) : Int := bif decide ((l.length : Int) > 8) then 6 else bif (l.length : Int) != (s.length : Int) then 17 else okE ((l.zip s).all Iu)
abbrev Py : PureT := B4 [.sl A3, .sl Ai] [cI] (fun _ => true) (fun x => (I4 x.1 x.2.1, ()))
noncomputable def Anb : Ctx := Hk Tryz.prog plK [(151, Tryz.f151)] [((151, 6), Ac A9u A9v A9w)]
theorem A5u : CtxOk Anb := Bw Ab puK (fns_cons is_lcheck A2) (Bk (by kernel_rfl) (by kernel_rfl) B9q)
noncomputable def Anc : Ctx := Hk Tryz.prog Aoo [(157, Tryz.f157)] [((157, 6), Ac A9x A9y A9z)]
theorem A5v : CtxOk Anc := Bw Ab Aop (fns_cons is_rlists A2) (Bk (by kernel_rfl) (by kernel_rfl) B9r)
def Vs (l : List (TCT A3)) (s : List (TCT Ai)) : Tree (TCTs [cI]) :=
 bif decide ((l.length : Int) > 8) then .leaf (6, ()) else bif (l.length : Int) != (s.length : Int) then .leaf (17, ()) else
 bif decide ((l.length : Int) = (l.length : Int) ∧ l.length = s.length ∧ (0 : Int) = 0) then bif (l.zip s).all Iu then .leaf (0, ()) else .leaf (2, ()) else .fail
theorem A5w (l : List (TCT A3)) (s : List (TCT Ai)) : (Vs l s).sat (fun y => y = (I4 l s, ())) := by
 unfold Vs I4
 cases decide ((l.length : Int) > 8) with
 | true => exact rfl
 | false =>
  cases h : ((l.length : Int) != (s.length : Int)) with
  | true => exact rfl
  | false =>
   have h' : l.length = s.length := by
                     have : (l.length : Int) = (s.length : Int) := by simpa using h
                     omega
   rw [decide_eq_true (show (l.length : Int) = (l.length : Int) ∧ l.length = s.length ∧ (0 : Int) = 0 from ⟨rfl, h', rfl⟩)]
   cases (l.zip s).all Iu <;> exact rfl
def Vt (l : List (TCT A3)) (s : List (TCT Ai)) : Tree (TCTs [cI]) :=
 bif decide ((l.length : Int) > 8) then .leaf (6, ()) else bif (s.length : Int) != (l.length : Int) then .leaf (17, ()) else
 bif decide (l.length = s.length ∧ (0 : Int) = 0) then bif (l.zip s).all Iu then .leaf (0, ()) else .leaf (2, ()) else .fail
theorem A5x (l : List (TCT A3)) (s : List (TCT Ai)) : (Vt l s).sat (fun y => y = (I4 l s, ())) := by
 unfold Vt I4
 rw [show ((s.length : Int) != (l.length : Int)) = ((l.length : Int) != (s.length : Int)) from bne_comm]
 cases decide ((l.length : Int) > 8) with
 | true => exact rfl
 | false =>
  cases h : ((l.length : Int) != (s.length : Int)) with
  | true => exact rfl
  | false =>
   have h' : l.length = s.length := by
                     have : (l.length : Int) = (s.length : Int) := by simpa using h
                     omega
   rw [decide_eq_true (show l.length = s.length ∧ (0 : Int) = 0 from ⟨h', rfl⟩)]
   cases (l.zip s).all Iu <;> exact rfl
theorem And : A7 Tryz.prog 151 Py := B2 A5u 3 (fun x => Vs x.1 x.2.1) (fun x => by kernel_rfl) fun _ _ _ => A5w _ _
theorem Ane : A7 Tryz.prog 157 Py := B2 A5v 3 (fun x => Vt x.1 x.2.1) (fun x => by kernel_rfl) fun _ _ _ => A5x _ _
end V
end Go.Proofs.YtkiaifmbbnnliaaGreat
