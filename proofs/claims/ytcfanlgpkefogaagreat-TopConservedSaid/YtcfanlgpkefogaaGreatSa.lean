import Derived.Test.YtcfanlgpkefogaaGreatUh
import Derived.Test.YtcfanlgpkefogaaGreatVC
namespace Go.Proofs.YtcfanlgpkefogaaGreat
open Go.RowKit
namespace V
theorem is_lcheck : FnIs Tryz.prog (134, Tryz.f134) := ⟨Tryz.func134, by kernel_rfl, by kernel_rfl⟩
theorem D04 {i n : Nat} (h : i < n) (hn : (n : Int) ≤ Bb2 .i64) : W64 ((i : Int) + 1) = ((i + 1 : Nat) : Int) := by
 simp only [Bb2] at hn
 rw [show W64 ((i : Int) + 1) = (i : Int) + 1 from Bag (by omega) (by omega)]; rfl
def Bmx (p : TCT No × TCT Bau) : Bool := (bm p.1 p.2).ok
noncomputable def D4n : Code := (Bak (bodyOf Tryz.f134)).getD 0 .skip
def C77 : Lay := { keys := [0, 1, 4, 18, 19, 20], ks := [.d (.sl No), .d (.sl Bau), .d cI, .d (.sl No), .d cI, .d cI], bs := [], n := 35, nx := 1000, marks := [] }
def D4o : Lay := { keys := [4], ks := [.d cI], bs := [], n := 35, nx := 1000, marks := [] }
def C78 : XE → Lay := fun _ => D4o
def Cg (l : List (TCT No)) (s : List (TCT Bau)) (e : Int) (l' : List (TCT No)) (n i : Int) : C77.T := ((l, s, e, l', n, i, ()), ())
def Cr (e : Int) : D4o.T := ((e, ()), ())
def D05 (l : List (TCT No)) (s : List (TCT Bau)) (i : Int) : Bool := Bmx (Bat l i.toNat (Bar No), Bat s i.toNat (Bar Bau))
def C31 (l : List (TCT No)) (s : List (TCT Bau)) (e : Int) (l' : List (TCT No)) (n i : Int) : Tree (C77.T ⊕ Fp C78) :=
 bif decide (i < n) then bif decide (0 ≤ i ∧ i < (l'.length : Int)) then bif decide (0 ≤ i ∧ i < (s.length : Int)) then
  bif okE (D05 l' s i) != 0 then .leaf (.inr ⟨.ret, Cr (okE (D05 l' s i))⟩) else .leaf (.inl (Cg l s e l' n (W64 (i + 1)))) else .fail else .fail else .leaf (.inr ⟨.exit 1, Cr e⟩)
def C79 (g : C77.T) : Tree (Fp C78) :=
 .br (decide (g.1.2.2.2.2.1 = (g.1.2.2.2.1.length : Int) ∧ g.1.2.2.2.1.length = g.1.2.1.length ∧ g.1.2.2.2.2.2.1 = 0)) (.br ((g.1.2.2.2.1.zip g.1.2.1).all Bmx) (.leaf ⟨.exit 1, Cr g.1.2.2.1⟩) (.leaf ⟨.ret, Cr 2⟩)) .fail
def Ct4 (p : TCT No × TCT Bau) (_ : Nat) (_ : Unit) : Unit ⊕ Fp C78 := bif Bmx p then .inl () else .inr ⟨.ret, Cr 2⟩
theorem Cls (e : Int) : ∀ (l : List (TCT No × TCT Bau)) (i : Nat), C4d Ct4 (fun _ => (⟨.exit 1, Cr e⟩ : Fp C78)) l i () = bif l.all Bmx then ⟨.exit 1, Cr e⟩ else ⟨.ret, Cr 2⟩
 | [], i => rfl
 | p :: l, i => by
  simp only [C4d, Ct4, List.all_cons]
  cases Bmx p with
  | false => rfl
  | true => exact Cls e l (i + 1)
theorem D06 {α β : Type} {l : List α} {s : List β} {i : Nat} (h : i < (l.zip s).length) (h1 : i < l.length) (h2 : i < s.length) (d : α) (e : β) : (l.zip s)[i] = (Bat l i d, Bat s i e) := by
 rw [List.getElem_zip, Bcl h1, Bcl h2]
theorem D7k : Baz Tryz.prog 134 D4n (Bav C77 C78 C79) := by
 refine Be6 (X := ctx Tryz.prog plK []) (Bap Ban puK Fq) 7 134 (fun _ => none) (fun _ _ f h => by simp at h) C77 C78 (fun _ => Nat.le_refl _) C79 (fun g => C31 g.1.1 g.1.2.1 g.1.2.2.1 g.1.2.2.2.1 g.1.2.2.2.2.1 g.1.2.2.2.2.2.1) (fun g => by kernel_rfl) ?_
 rintro ⟨⟨l0, s, e, l, n, i, ⟨⟩⟩, ⟨⟩⟩ R hw hf
 obtain ⟨hf, h0⟩ := hf
 by_cases hc : n = (l.length : Int) ∧ l.length = s.length ∧ i = 0
 ·obtain ⟨rfl, hls, rfl⟩ := hc
  have hf := hf (decide_eq_true ⟨rfl, hls, rfl⟩)
  have hlen : (l.length : Int) ≤ Bb2 .i64 := by
   simp only [Lay.WF, C77, WFKs, WFK, WFD] at hw
   exact hw.1.2.2.2.1.1
  have hz : (l.zip s).length = l.length := by rw [List.length_zip, ← hls, Nat.min_self]
  refine ⟨_, Bq9 (l.zip s) (fun i _ => Cg l0 s e l l.length i) Ct4 (fun _ => ⟨.exit 1, Cr e⟩) (fun _ => True) ?_ ?_ (l.zip s).length 0 () (by omega) trivial ?_⟩
  ·intro i _ hi Q _ _ hQ
   have h1 : i < l.length := by omega
   have h2 : i < s.length := by omega
   show (C31 l0 s e l l.length i).sat Q
   unfold C31 D05
   rw [decide_eq_true (show (i : Int) < l.length by omega), decide_eq_true (show 0 ≤ (i : Int) ∧ (i : Int) < l.length by omega), decide_eq_true (show 0 ≤ (i : Int) ∧ (i : Int) < s.length by omega), D04 h1 hlen]
   have ht : (i : Int).toNat = i := by omega
   rw [D06 hi h1 h2 (Bar No) (Bar Bau)] at hQ
   rw [ht]
   unfold Ct4 at hQ
   cases hk : Bmx (Bat l i (Bar No), Bat s i (Bar Bau)) with
   | true => rw [hk] at hQ; exact hQ trivial
   | false => rw [hk] at hQ; exact hQ
  ·intro _ Q _ hQ
   show (C31 l0 s e l l.length ((l.zip s).length : Nat)).sat Q
   rw [hz]
   unfold C31
   rw [decide_eq_false (show ¬ (l.length : Int) < l.length by omega)]
   exact hQ
  ·rw [List.drop_zero, Cls]
   obtain ⟨h1, h2⟩ := hf
   cases ha : (l.zip s).all Bmx with
   | true => exact h1 ha
   | false => exact h2 ha
 ·exact (h0 (decide_eq_false hc)).elim
def Bjf (l : List (TCT No)) (s : List (TCT Bau)) : Int := bif decide ((l.length : Int) > 8) then 6 else bif (l.length : Int) != (s.length : Int) then 17 else okE ((l.zip s).all Bmx)
abbrev C32 : PureT := Bbb [.sl No, .sl Bau] [cI] (fun _ => true) (fun x => (Bjf x.1 x.2.1, ()))
noncomputable def Clt : Ctx := Bgo Tryz.prog plK [(134, Tryz.f134)] [((134, 6), Bav C77 C78 C79)]
theorem C33 : CtxOk Clt := Bc8 Ban puK (fns_cons is_lcheck Fq) (Bbt (by kernel_rfl) (by kernel_rfl) D7k)
def Btl (l : List (TCT No)) (s : List (TCT Bau)) : Tree (TCTs [cI]) :=
 bif decide ((l.length : Int) > 8) then .leaf (6, ()) else bif (l.length : Int) != (s.length : Int) then .leaf (17, ()) else
 bif decide ((l.length : Int) = (l.length : Int) ∧ l.length = s.length ∧ (0 : Int) = 0) then bif (l.zip s).all Bmx then .leaf (0, ()) else .leaf (2, ()) else .fail
theorem C34 (l : List (TCT No)) (s : List (TCT Bau)) : (Btl l s).sat (fun y => y = (Bjf l s, ())) := by
 unfold Btl Bjf
 cases decide ((l.length : Int) > 8) with
 | true => exact rfl
 | false =>
  cases h : ((l.length : Int) != (s.length : Int)) with
  | true => exact rfl
  | false =>
   have h' : l.length = s.length := by
                     have : (l.length : Int) = (s.length : Int) := by simpa using h
                     omega
   rw [decide_eq_true (show (l.length : Int) = (l.length : Int) ∧ l.length = s.length ∧ (0 : Int) = 0 from ⟨rfl, h', rfl⟩)]
   cases (l.zip s).all Bmx <;> exact rfl
theorem Clu : Bai Tryz.prog 134 C32 := Bbd C33 3 (fun x => Btl x.1 x.2.1) (fun x => by kernel_rfl) fun _ _ _ => C34 _ _
end V
end Go.Proofs.YtcfanlgpkefogaaGreat
