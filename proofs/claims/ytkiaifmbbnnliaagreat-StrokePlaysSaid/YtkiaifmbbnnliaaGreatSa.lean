import Derived.Test.YtkiaifmbbnnliaaGreatUh
import Derived.Test.YtkiaifmbbnnliaaGreatVC
namespace Go.Proofs.YtkiaifmbbnnliaaGreat
open Go.RowKit
namespace V
theorem is_lcheck : FnIs Tryz.prog (151, Tryz.f151) := ⟨Tryz.func151, by kernel_rfl, by kernel_rfl⟩
theorem is_rlists : FnIs Tryz.prog (157, Tryz.f157) := ⟨Tryz.func157, by kernel_rfl, by kernel_rfl⟩
theorem As8 {i n : Nat} (h : i < n) (hn : (n : Int) ≤ As .i64) : W64 ((i : Int) + 1) = ((i + 1 : Nat) : Int) := by
 simp only [As] at hn
 rw [show W64 ((i : Int) + 1) = (i : Int) + 1 from A5 (by omega) (by omega)]; rfl
def Iv (p : TCT A4 × TCT Aj) : Bool := (bm p.1 p.2).ok
noncomputable def Bel : Code := (A8 (bodyOf Tryz.f151)).getD 0 .skip
noncomputable def B8f : Code := (A8 (bodyOf Tryz.f157)).getD 0 .skip
def Abz : Lay := { keys := [0, 1, 4, 18, 19, 20], ks := [.d (.sl A4), .d (.sl Aj), .d cI, .d (.sl A4), .d cI, .d cI], bs := [], n := 35, nx := 1000, marks := [] }
def Bem : Lay := { keys := [4], ks := [.d cI], bs := [], n := 35, nx := 1000, marks := [] }
def Ac0 : XE → Lay := fun _ => Bem
def Cg (l : List (TCT A4)) (s : List (TCT Aj)) (e : Int) (l' : List (TCT A4)) (n i : Int) : Abz.T := ((l, s, e, l', n, i, ()), ())
def Cr (e : Int) : Bem.T := ((e, ()), ())
def As9 (l : List (TCT A4)) (s : List (TCT Aj)) (i : Int) : Bool := Iv (At l i.toNat (Aq A4), At s i.toNat (Aq Aj))
def A79 (l : List (TCT A4)) (s : List (TCT Aj)) (e : Int) (l' : List (TCT A4)) (n i : Int) : Tree (Abz.T ⊕ A1 Ac0) :=
 bif decide (i < n) then bif decide (0 ≤ i ∧ i < (l'.length : Int)) then bif decide (0 ≤ i ∧ i < (s.length : Int)) then
  bif okE (As9 l' s i) != 0 then .leaf (.inr ⟨.ret, Cr (okE (As9 l' s i))⟩) else .leaf (.inl (Cg l s e l' n (W64 (i + 1)))) else .fail else .fail else .leaf (.inr ⟨.exit 1, Cr e⟩)
def Ac1 (g : Abz.T) : Tree (A1 Ac0) :=
 .br (decide (g.1.2.2.2.2.1 = (g.1.2.2.2.1.length : Int) ∧ g.1.2.2.2.1.length = g.1.2.1.length ∧ g.1.2.2.2.2.2.1 = 0)) (.br ((g.1.2.2.2.1.zip g.1.2.1).all Iv) (.leaf ⟨.exit 1, Cr g.1.2.2.1⟩) (.leaf ⟨.ret, Cr 2⟩)) .fail
def Azf (p : TCT A4 × TCT Aj) (_ : Nat) (_ : Unit) : Unit ⊕ A1 Ac0 := bif Iv p then .inl () else .inr ⟨.ret, Cr 2⟩
theorem Asa (e : Int) : ∀ (l : List (TCT A4 × TCT Aj)) (i : Nat), Zu Azf (fun _ => (⟨.exit 1, Cr e⟩ : A1 Ac0)) l i () = bif l.all Iv then ⟨.exit 1, Cr e⟩ else ⟨.ret, Cr 2⟩
 | [], i => rfl
 | p :: l, i => by
  simp only [Zu, Azf, List.all_cons]
  cases Iv p with
  | false => rfl
  | true => exact Asa e l (i + 1)
theorem Asb {α β : Type} {l : List α} {s : List β} {i : Nat} (h : i < (l.zip s).length) (h1 : i < l.length) (h2 : i < s.length) (d : α) (e : β) : (l.zip s)[i] = (At l i d, At s i e) := by
 rw [List.getElem_zip, E7 h1, E7 h2]
theorem Bid : Ae Tryz.prog 151 Bel (A9 Abz Ac0 Ac1) := by
 refine E0 (X := ctx Tryz.prog plK []) (Ad Ab puK A2) 7 151 (fun _ => none) (fun _ _ f h => by simp at h) Abz Ac0 (fun _ => Nat.le_refl _) Ac1 (fun g => A79 g.1.1 g.1.2.1 g.1.2.2.1 g.1.2.2.2.1 g.1.2.2.2.2.1 g.1.2.2.2.2.2.1) (fun g => by kernel_rfl) ?_
 rintro ⟨⟨l0, s, e, l, n, i, ⟨⟩⟩, ⟨⟩⟩ R hw hf
 obtain ⟨hf, h0⟩ := hf
 by_cases hc : n = (l.length : Int) ∧ l.length = s.length ∧ i = 0
 ·obtain ⟨rfl, hls, rfl⟩ := hc
  have hf := hf (decide_eq_true ⟨rfl, hls, rfl⟩)
  have hlen : (l.length : Int) ≤ As .i64 := by
   simp only [Lay.WF, Abz, WFKs, WFK, WFD] at hw
   exact hw.1.2.2.2.1.1
  have hz : (l.zip s).length = l.length := by rw [List.length_zip, ← hls, Nat.min_self]
  refine ⟨_, Nq (l.zip s) (fun i _ => Cg l0 s e l l.length i) Azf (fun _ => ⟨.exit 1, Cr e⟩) (fun _ => True) ?_ ?_ (l.zip s).length 0 () (by omega) trivial ?_⟩
  ·intro i _ hi Q _ _ hQ
   have h1 : i < l.length := by omega
   have h2 : i < s.length := by omega
   show (A79 l0 s e l l.length i).sat Q
   unfold A79 As9
   rw [decide_eq_true (show (i : Int) < l.length by omega), decide_eq_true (show 0 ≤ (i : Int) ∧ (i : Int) < l.length by omega), decide_eq_true (show 0 ≤ (i : Int) ∧ (i : Int) < s.length by omega), As8 h1 hlen]
   have ht : (i : Int).toNat = i := by omega
   rw [Asb hi h1 h2 (Aq A4) (Aq Aj)] at hQ
   rw [ht]
   unfold Azf at hQ
   cases hk : Iv (At l i (Aq A4), At s i (Aq Aj)) with
   | true => rw [hk] at hQ; exact hQ trivial
   | false => rw [hk] at hQ; exact hQ
  ·intro _ Q _ hQ
   show (A79 l0 s e l l.length ((l.zip s).length : Nat)).sat Q
   rw [hz]
   unfold A79
   rw [decide_eq_false (show ¬ (l.length : Int) < l.length by omega)]
   exact hQ
  ·rw [List.drop_zero, Asa]
   obtain ⟨h1, h2⟩ := hf
   cases ha : (l.zip s).all Iv with
   | true => exact h1 ha
   | false => exact h2 ha
 ·exact (h0 (decide_eq_false hc)).elim
def Ac2 : Lay := { keys := [0, 1, 4, 5], ks := [.d (.sl A4), .d (.sl Aj), .d cI, .d cI], bs := [], n := 30, nx := 1000, marks := [] }
def Ben : Lay := { keys := [4], ks := [.d cI], bs := [], n := 30, nx := 1000, marks := [] }
def Ac3 : XE → Lay := fun _ => Ben
def Dg (l : List (TCT A4)) (s : List (TCT Aj)) (e i : Int) : Ac2.T := ((l, s, e, i, ()), ())
def Dr (e : Int) : Ben.T := ((e, ()), ())
def A7a (l : List (TCT A4)) (s : List (TCT Aj)) (e i : Int) : Tree (Ac2.T ⊕ A1 Ac3) :=
 bif decide (i < (l.length : Int)) then bif decide (0 ≤ i ∧ i < (l.length : Int)) then bif decide (0 ≤ i ∧ i < (s.length : Int)) then
  bif okE (As9 l s i) != 0 then .leaf (.inr ⟨.ret, Dr 2⟩) else .leaf (.inl (Dg l s e (W64 (i + 1)))) else .fail else .fail else .leaf (.inr ⟨.exit 0, Dr e⟩)
def Ac4 (g : Ac2.T) : Tree (A1 Ac3) :=
 .br (decide (g.1.1.length = g.1.2.1.length ∧ g.1.2.2.2.1 = 0)) (.br ((g.1.1.zip g.1.2.1).all Iv) (.leaf ⟨.exit 0, Dr g.1.2.2.1⟩) (.leaf ⟨.ret, Dr 2⟩)) .fail
def Azg (p : TCT A4 × TCT Aj) (_ : Nat) (_ : Unit) : Unit ⊕ A1 Ac3 := bif Iv p then .inl () else .inr ⟨.ret, Dr 2⟩
theorem Asc (e : Int) : ∀ (l : List (TCT A4 × TCT Aj)) (i : Nat), Zu Azg (fun _ => (⟨.exit 0, Dr e⟩ : A1 Ac3)) l i () = bif l.all Iv then ⟨.exit 0, Dr e⟩ else ⟨.ret, Dr 2⟩
 | [], i => rfl
 | p :: l, i => by
  simp only [Zu, Azg, List.all_cons]
  cases Iv p with
  | false => rfl
  | true => exact Asc e l (i + 1)
theorem Bie : Ae Tryz.prog 157 B8f (A9 Ac2 Ac3 Ac4) := by
 refine E0 (X := ctx Tryz.prog Atn []) (Ad Ab Ato A2) 7 157 (fun _ => none) (fun _ _ f h => by simp at h) Ac2 Ac3 (fun _ => Nat.le_refl _) Ac4 (fun g => A7a g.1.1 g.1.2.1 g.1.2.2.1 g.1.2.2.2.1) (fun g => by kernel_rfl) ?_
 rintro ⟨⟨l, s, e, i, ⟨⟩⟩, ⟨⟩⟩ R hw hf
 obtain ⟨hf, h0⟩ := hf
 by_cases hc : l.length = s.length ∧ i = 0
 ·obtain ⟨hls, rfl⟩ := hc
  have hf := hf (decide_eq_true ⟨hls, rfl⟩)
  have hlen : (l.length : Int) ≤ As .i64 := by
   simp only [Lay.WF, Ac2, WFKs, WFK, WFD] at hw
   exact hw.1.1.1
  have hz : (l.zip s).length = l.length := by rw [List.length_zip, ← hls, Nat.min_self]
  refine ⟨_, Nq (l.zip s) (fun i _ => Dg l s e i) Azg (fun _ => ⟨.exit 0, Dr e⟩) (fun _ => True) ?_ ?_ (l.zip s).length 0 () (by omega) trivial ?_⟩
  ·intro i _ hi Q _ _ hQ
   have h1 : i < l.length := by omega
   have h2 : i < s.length := by omega
   show (A7a l s e i).sat Q
   unfold A7a As9
   rw [decide_eq_true (show (i : Int) < l.length by omega), decide_eq_true (show 0 ≤ (i : Int) ∧ (i : Int) < l.length by omega), decide_eq_true (show 0 ≤ (i : Int) ∧ (i : Int) < s.length by omega), As8 h1 hlen]
   have ht : (i : Int).toNat = i := by omega
   rw [Asb hi h1 h2 (Aq A4) (Aq Aj)] at hQ
   rw [ht]
   unfold Azg at hQ
   cases hk : Iv (At l i (Aq A4), At s i (Aq Aj)) with
   | true => rw [hk] at hQ; exact hQ trivial
   | false => rw [hk] at hQ; exact hQ
  ·intro _ Q _ hQ
   show (A7a l s e ((l.zip s).length : Nat)).sat Q
   rw [hz]
   unfold A7a
   rw [decide_eq_false (show ¬ (l.length : Int) < l.length by omega)]
   exact hQ
  ·rw [List.drop_zero, Asc]
   obtain ⟨h1, h2⟩ := hf
   cases ha : (l.zip s).all Iv with
   | true => exact h1 ha
   | false => exact h2 ha
 ·exact (h0 (decide_eq_false hc)).elim
def J3 (l : List (TCT A4)) (s : List (TCT Aj)) : Int := bif decide ((l.length : Int) > 8) then 6 else bif (l.length : Int) != (s.length : Int) then 17 else okE ((l.zip s).all Iv)
abbrev Q5 : PureT := B9 [.sl A4, .sl Aj] [cI] (fun _ => true) (fun x => (J3 x.1 x.2.1, ()))
noncomputable def Asd : Ctx := Gu Tryz.prog plK [(151, Tryz.f151)] [((151, 6), A9 Abz Ac0 Ac1)]
theorem A7b : CtxOk Asd := Bx Ab puK (fns_cons is_lcheck A2) (Bg (by kernel_rfl) (by kernel_rfl) Bid)
noncomputable def Ase : Ctx := Gu Tryz.prog Atn [(157, Tryz.f157)] [((157, 6), A9 Ac2 Ac3 Ac4)]
theorem A7c : CtxOk Ase := Bx Ab Ato (fns_cons is_rlists A2) (Bg (by kernel_rfl) (by kernel_rfl) Bie)
def Wr (l : List (TCT A4)) (s : List (TCT Aj)) : Tree (TCTs [cI]) :=
 bif decide ((l.length : Int) > 8) then .leaf (6, ()) else bif (l.length : Int) != (s.length : Int) then .leaf (17, ()) else
 bif decide ((l.length : Int) = (l.length : Int) ∧ l.length = s.length ∧ (0 : Int) = 0) then bif (l.zip s).all Iv then .leaf (0, ()) else .leaf (2, ()) else .fail
theorem A7d (l : List (TCT A4)) (s : List (TCT Aj)) : (Wr l s).sat (fun y => y = (J3 l s, ())) := by
 unfold Wr J3
 cases decide ((l.length : Int) > 8) with
 | true => exact rfl
 | false =>
  cases h : ((l.length : Int) != (s.length : Int)) with
  | true => exact rfl
  | false =>
   have h' : l.length = s.length := by
                     have : (l.length : Int) = (s.length : Int) := by simpa using h
                     omega
   rw [decide_eq_true (show (l.length : Int) = (l.length : Int) ∧ l.length = s.length ∧ (0 : Int) = 0 from ⟨rfl, h', rfl⟩)]
   cases (l.zip s).all Iv <;> exact rfl
def Ws (l : List (TCT A4)) (s : List (TCT Aj)) : Tree (TCTs [cI]) :=
 bif decide ((l.length : Int) > 8) then .leaf (6, ()) else bif (s.length : Int) != (l.length : Int) then .leaf (17, ()) else
 bif decide (l.length = s.length ∧ (0 : Int) = 0) then bif (l.zip s).all Iv then .leaf (0, ()) else .leaf (2, ()) else .fail
theorem A7e (l : List (TCT A4)) (s : List (TCT Aj)) : (Ws l s).sat (fun y => y = (J3 l s, ())) := by
 unfold Ws J3
 rw [show ((s.length : Int) != (l.length : Int)) = ((l.length : Int) != (s.length : Int)) from bne_comm]
 cases decide ((l.length : Int) > 8) with
 | true => exact rfl
 | false =>
  cases h : ((l.length : Int) != (s.length : Int)) with
  | true => exact rfl
  | false =>
   have h' : l.length = s.length := by
                     have : (l.length : Int) = (s.length : Int) := by simpa using h
                     omega
   rw [decide_eq_true (show l.length = s.length ∧ (0 : Int) = 0 from ⟨h', rfl⟩)]
   cases (l.zip s).all Iv <;> exact rfl
theorem Asf : A7 Tryz.prog 151 Q5 := B6 A7b 3 (fun x => Wr x.1 x.2.1) (fun x => by kernel_rfl) fun _ _ _ => A7d _ _
theorem Asg : A7 Tryz.prog 157 Q5 := B6 A7c 3 (fun x => Ws x.1 x.2.1) (fun x => by kernel_rfl) fun _ _ _ => A7e _ _
end V
end Go.Proofs.YtkiaifmbbnnliaaGreat
