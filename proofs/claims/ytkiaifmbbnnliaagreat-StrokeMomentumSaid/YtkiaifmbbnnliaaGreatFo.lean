import Derived.Test.YtkiaifmbbnnliaaGreatFn
namespace Go.Proofs.YtkiaifmbbnnliaaGreat
open Go.RowKit
namespace V
namespace St
theorem is_by : FnIs Tryz.prog (5, Tryz.f5) := ⟨Tryz.func5, by kernel_rfl, by kernel_rfl⟩
theorem is_bz : FnIs Tryz.prog (24, Tryz.f24) := ⟨Tryz.func24, by kernel_rfl, by kernel_rfl⟩
theorem is_bA : FnIs Tryz.prog (25, Tryz.f25) := ⟨Tryz.func25, by kernel_rfl, by kernel_rfl⟩
abbrev Axl : PureT := B4 [cSt, cI] [.sl Ai] (fun x => decide ((msT x.1).length ≤ 1000)) (fun x => (msT x.1, ()))
theorem B64 : A7 Tryz.prog 24 Axl := B2 (Ad Ab A9 (fns_cons is_bz A2)) 7 (fun x => acT (msT x.1) 48 (.leaf (msT x.1, ()))) (fun x => by kernel_rfl) fun x hok _ => by
 rw [Ot (of_decide_eq_true hok) (by decide)]
 exact rfl
noncomputable def B65 : Code := (A8 (bodyOf Tryz.f25)).getD 0 .skip
def A9q : Lay := { keys := [1, 2, 5, 6], ks := [.d cI, .p 0 0 0 0, .o 4 .b, .d cI], bs := [(0, 38, kSt)], n := 21, nx := 1000, marks := [] }
def B9l : Lay := { keys := [5], ks := [.o 4 .b], bs := [], n := 21, nx := 1000, marks := [] }
def Afm : XE → Lay := fun _ => B9l
def A5l (b : Int) (s : SKTs kSt) (o : List Bool) (i : Int) : A9q.T := ((b, (), o, i, ()), (s, ()))
def Ad7 (o : List Bool) : A1 Afm := ⟨.exit 0, ((o, ()), ())⟩
abbrev TAL := Tree (A9q.T ⊕ A1 Afm)
def osX (s : SKTs kSt) : List Bool := s.2.1
def Vm (b : Int) (s : SKTs kSt) (o : List Bool) (i : Int) : TAL := bif decide (i < ((osX s).length : Int)) then bif Ey o [!(i == b)] 1 then .leaf (.inl (A5l b s (o ++ [!(i == b)]) (W64 (i + 1)))) else .fail else .leaf (.inr (Ad7 o))
def Zr (g : A9q.T) : TAL := Vm g.1.1 g.2.1 g.1.2.2.1 g.1.2.2.2.1
def Amt (g : A9q.T) : Nat := (osX g.2.1).length + 1
theorem B9m : Aj Tryz.prog 25 B65 (Ac A9q Afm (C3 [.exit 0] Zr Amt)) := Ay (Ad Ab A9 A2) 7 _ A9q Afm (fun e => by cases e <;> exact Nat.le_refl _) [.exit 0] Zr Amt (fun g => by kernel_rfl)
theorem B66 {b : Int} {s : SKTs kSt} {n : Nat} (hn : n ≤ 1000) (hl : (osX s).length = n) : iter Zr (n + 1) (A5l b s [] 0) = some (Ad7 (Pv n b)) := by
 have a : iter Zr (n + 1) (A5l b s [] ((0 : Nat) : Int)) = some (Ad7 (unE (Ar (alE b) 0 n []))) := by
  refine G8 n (fun i o => A5l b s o (i : Int)) (alE b) (fun o => Ad7 (unE o)) (fun i o => o.length = i) (fun i o hi hl2 => ?_) (fun i o o' _ hl2 h => by cases h; rw [List.length_append, List.length_singleton, hl2]) (fun o hl2 => ?_) n 0 [] (by omega) rfl
  ·show (Vm b s o (i : Int)).run = _
   unfold Vm
   rw [decide_eq_true (show (i : Int) < ((osX s).length : Int) by omega), Lw (by simp; omega) (by decide), Bp (n := (i : Int) + 1) (by omega) (by omega)]
   rfl
  ·show (Vm b s o (n : Int)).run = _
   unfold Vm
   rw [decide_eq_false (show ¬ (n : Int) < ((osX s).length : Int) by omega)]
   rfl
 exact a
abbrev B67 : PureT := B4 [cSt, cI] [.sl .b] (fun x => decide ((osT x.1).length ≤ 1000)) (fun x => (Pv (osT x.1).length x.2.1, ()))
def B9n (y : Option (A1 Afm)) : Tree (TCTs [.sl .b]) := bif isE (.exit 0) y then .leaf ((C0 (.exit 0) y).1.1, ()) else .fail
noncomputable def B68 : Ctx := Hk Tryz.prog [] [(25, Tryz.f25)] [((25, 3), Ac A9q Afm (C3 [.exit 0] Zr Amt))]
theorem Amu : CtxOk B68 := Bw Ab A9 (fns_cons is_bA A2) (Bk (by kernel_rfl) (by kernel_rfl) B9m)
theorem B69 : A7 Tryz.prog 25 B67 := B2 Amu 7 (fun x => B9n (iter Zr ((osT x.1).length + 1) (A5l x.2.1 x.1 [] 0))) (fun x => by kernel_rfl) fun x hok _ => by
 rw [B66 (of_decide_eq_true hok) rfl]
 exact rfl
theorem Amv {p a : Int} {i : Nat} (hi : i < 8) (hp : -(i * 16777216) ≤ p ∧ p ≤ i * 16777216) (ha : -16777216 ≤ a ∧ a ≤ 16777216) : W64 (p + a) = p + a ∧ -((i + 1 : Nat) * 16777216) ≤ p + a ∧ p + a ≤ (i + 1 : Nat) * 16777216 := by
 refine ⟨Bp (by omega) (by omega), by omega, by omega⟩
structure InvT (m : Ae) (i : Nat) (p : SKTs kPt) : Prop where
 x : p.1 = smP ptX (m.take i)
 y : p.2.1 = smP ptY (m.take i)
 bx : -(i * 16777216) ≤ smP ptX (m.take i) ∧ smP ptX (m.take i) ≤ i * 16777216
 by' : -(i * 16777216) ≤ smP ptY (m.take i) ∧ smP ptY (m.take i) ≤ i * 16777216
theorem Ad8 {m : Ae} (h8 : m.length ≤ 8) (hs : SM m) : (Pt m).1 = smP ptX m ∧ (Pt m).2.1 = smP ptY m := by
 have key : ∃ p : SKTs kPt, Ar (A1a m) 0 m.length p0 = .inl p ∧ InvT m m.length p := by
  have e : ∀ x : SKTs kPt ⊕ Unit, (∀ u, x ≠ .inr u) → ∃ p, x = .inl p := fun x h => by
   cases x with
   | inl p => exact ⟨p, rfl⟩
   | inr u => exact absurd rfl (h u)
  obtain ⟨p, hp⟩ := e (Ar (A1a m) 0 m.length p0) (fun u hu => by
   obtain ⟨j, v, hj⟩ := Fx _ _ _ _ hu
   unfold A1a at hj
   cases hj)
  refine ⟨p, hp, Ax (n := m.length) (Inv := fun i (x : SKTs kPt) => InvT m i x) (fun i x x' hi h h2 => ?_) m.length 0 p0 p (by omega) ⟨rfl, rfl, by simp [smP], by simp [smP]⟩ hp⟩
  unfold A1a at h2
  cases h2
  have b := El (hs i)
  have ex : smP ptX (m.take (i + 1)) = smP ptX (m.take i) + ptX (Ag m i).2.1 := Lz m i hi
  have ey : smP ptY (m.take (i + 1)) = smP ptY (m.take i) + ptY (Ag m i).2.1 := Lz m i hi
  have wx := Amv (i := i) (by omega) h.bx b.1
  have wy := Amv (i := i) (by omega) h.by' b.2
  refine ⟨?_, ?_, ?_, ?_⟩
  ·show W64 (x.1 + (Ag m i).2.1.1) = _
   rw [h.x, ex]; exact wx.1
  ·show W64 (x.2.1 + (Ag m i).2.1.2.1) = _
   rw [h.y, ey]; exact wy.1
  ·rw [ex]; exact wx.2
  ·rw [ey]; exact wy.2
 obtain ⟨p, hp, h⟩ := key
 unfold Pt
 rw [hp]
 have hx := h.x
 have hy := h.y
 rw [List.take_length] at hx hy
 exact ⟨hx, hy⟩
end St
end V
end Go.Proofs.YtkiaifmbbnnliaaGreat
