import Derived.Test.YtkiaifmbbnnliaaGreatZb
import Derived.Test.YtkiaifmbbnnliaaGreatMA
import Derived.Test.YtkiaifmbbnnliaaGreatRows
namespace Go.Proofs.YtkiaifmbbnnliaaGreat
open Go.RowKit V
theorem is_bB : FnIs Tryz.prog (109, Tryz.f109) := ⟨Tryz.func109, by kernel_rfl, by kernel_rfl⟩
theorem is_bC : FnIs Tryz.prog (112, Tryz.f112) := ⟨Tryz.func112, by kernel_rfl, by kernel_rfl⟩
theorem is_bD : FnIs Tryz.prog (206, Tryz.f206) := ⟨Tryz.func206, by kernel_rfl, by kernel_rfl⟩
theorem is_bE : FnIs Tryz.prog (185, Tryz.f185) := ⟨Tryz.func185, by kernel_rfl, by kernel_rfl⟩
theorem is_bF : FnIs Tryz.prog (110, Tryz.f110) := ⟨Tryz.func110, by kernel_rfl, by kernel_rfl⟩
theorem is_bG : FnIs Tryz.prog (150, Tryz.f150) := ⟨Tryz.func150, by kernel_rfl, by kernel_rfl⟩
theorem is_bH : FnIs Tryz.prog (102, Tryz.f102) := ⟨Tryz.func102, by kernel_rfl, by kernel_rfl⟩
theorem is_bI : FnIs Tryz.prog (188, Tryz.f188) := ⟨Tryz.func188, by kernel_rfl, by kernel_rfl⟩
theorem is_bJ : FnIs Tryz.prog (111, Tryz.f111) := ⟨Tryz.func111, by kernel_rfl, by kernel_rfl⟩
theorem is_bK : FnIs Tryz.prog (201, Tryz.f201) := ⟨Tryz.func201, by kernel_rfl, by kernel_rfl⟩
theorem is_bL : FnIs Tryz.prog (56, Tryz.f56) := ⟨Tryz.func56, by kernel_rfl, by kernel_rfl⟩
theorem is_bM : FnIs Tryz.prog (117, Tryz.f117) := ⟨Tryz.func117, by kernel_rfl, by kernel_rfl⟩
theorem is_bN : FnIs Tryz.prog (116, Tryz.f116) := ⟨Tryz.func116, by kernel_rfl, by kernel_rfl⟩
theorem is_bO : FnIs Tryz.prog (155, Tryz.f155) := ⟨Tryz.func155, by kernel_rfl, by kernel_rfl⟩
theorem is_bP : FnIs Tryz.prog (156, Tryz.f156) := ⟨Tryz.func156, by kernel_rfl, by kernel_rfl⟩
theorem is_bQ : FnIs Tryz.prog (154, Tryz.f154) := ⟨Tryz.func154, by kernel_rfl, by kernel_rfl⟩
theorem Vx : FnIs Tryz.prog (50, Tryz.f50) := ⟨Tryz.func50, by kernel_rfl, by kernel_rfl⟩
namespace V
abbrev cPt : TC := .st [.i .i64, .i .i64]
abbrev Al : TC := .st [cPt, .i .i64]
end V
abbrev K4 : PureT := B4 [cI, cI, cI] [.b] (fun _ => true) (fun x => (Aw x.1 x.2.1 x.2.2.1, ()))
theorem Afs {a b c : Int} : (bif decide (a < b) then .leaf (true, ()) else .leaf (decide (a > c), ()) : Tree (TCTs [.b])).sat (fun y => y = (Aw a b c, ())) := by
 refine B6 (fun h1 => ?_) (fun h1 => ?_) <;> (refine At ?_; unfold Aw; rw [h1]; rfl)
theorem Aa2 : A7 Tryz.prog 109 K4 := B2 (Ad Ab A9 (fns_cons is_bB A2)) 2 (fun x => bif decide (x.1 < x.2.1) then .leaf (true, ()) else .leaf (decide (x.1 > x.2.2.1), ())) (fun x => by kernel_rfl) fun _ _ _ => Afs
theorem B6l : Bu Tryz.prog [(109, K4)] := A0 is_bB.plain Aa2 A9
def Vy (n d : Int) : Tree (TCTs [.st [cI, cI]]) :=
 bif d != 0 then bif d != 0 then
      bif decide (IntKind.i64.wrap (2 * n.tmod d) ≥ d) then .leaf (((IntKind.i64.wrap (IntKind.i64.wrap (n.tdiv d) + 1)), (IntKind.i64.wrap (n.tmod d - d)), ()), ())
      else bif decide (IntKind.i64.wrap (2 * n.tmod d) < IntKind.i64.wrap (0 - d)) then .leaf (((IntKind.i64.wrap (IntKind.i64.wrap (n.tdiv d) - 1)), (IntKind.i64.wrap (n.tmod d + d)), ()), ())
      else .leaf (((IntKind.i64.wrap (n.tdiv d)), (n.tmod d), ()), ())
     else .fail else .fail
theorem A6a {n d : Int} (hok : F4 n d = true) : (Vy n d).sat (fun y => y = ((DW n d, DR n d, ()), ())) := by
 unfold Vy
 unfold F4 at hok
 obtain ⟨h1, h2, h3, h4⟩ := of_decide_eq_true hok
 have hd : (d != 0) = true := by simp; omega
 have ⟨k1, k2⟩ := Adb n d h3
 have ⟨k3, k4⟩ := Axo n d 1152921504606846976 h3 h1 h2
 rw [A6 (n := 2 * n.tmod d) (by omega) (by omega), A6 (n := n.tdiv d) (by omega) (by omega), A6 (n := n.tdiv d + 1) (by omega) (by omega), A6 (n := n.tdiv d - 1) (by omega) (by omega),
  A6 (n := n.tmod d - d) (by omega) (by omega), A6 (n := n.tmod d + d) (by omega) (by omega), A6 (n := 0 - d) (by omega) (by omega), hd]
 refine B6 (fun _ => B6 (fun _ => B6 (fun h5 => ?_) (fun h5 => B6 (fun h6 => ?_) (fun h6 => ?_))) (fun h => by simp at h)) (fun h => by simp at h)
 ·obtain ⟨e1, e2⟩ := Axp n d h3 (of_decide_eq_true h5)
  refine At ?_
  rw [e1, e2]
 ·obtain ⟨e1, e2⟩ := Axq n d h3 (by have := of_decide_eq_true h6; omega)
  refine At ?_
  rw [e1, e2]
 ·obtain ⟨e1, e2⟩ := An2 n d h3 (by have := of_decide_eq_false h5; omega) (by have := of_decide_eq_false h6; omega)
  refine At ?_
  rw [e1, e2]
abbrev Vz : PureT := B4 [cI, cI] [.st [cI, cI]] (fun x => F4 x.1 x.2.1) (fun x => ((DW x.1 x.2.1, DR x.1 x.2.1, ()), ()))
theorem Aft : A7 Tryz.prog 112 Vz := B2 (Ad Ab A9 (fns_cons is_bC A2)) 2 (fun x => Vy x.1 x.2.1) (fun x => by kernel_rfl) fun x hok hw => A6a hok
theorem B6m : Bu Tryz.prog [(112, Vz), (109, K4)] := A0 is_bC.plain Aft B6l
namespace V
def B1m (n d : Int) : Tree (TCTs [.st [cI, cI], cI]) :=
 bif Aw n (-1152921504606846976) 1152921504606846976 then .leaf ((0, 0, ()), 3, ())
     else bif Aw d 1 1152921504606846976 then .leaf ((0, 0, ()), 3, ())
     else bif F4 n d then
      bif (DW n d == 0) && ((DR n d == 0) && true) then .leaf ((0, 0, ()), 0, ())
      else .leaf (((DW n d), (DR n d), ()), 0, ())
     else .fail
theorem Auo {n d : Int} : (B1m n d).sat (fun y => y = ((DvW n d, DvR n d, ()), DvE n d, ())) := by
 unfold B1m
 refine B6 (fun h1 => ?_) (fun h1 => B6 (fun h2 => ?_) (fun h2 => B6 (fun h3 => ?_) (fun h3 => ?_)))
 ·obtain ⟨e1, e2, e3⟩ := Aua n d h1
  refine At ?_
  rw [e1, e2, e3]
 ·obtain ⟨e1, e2, e3⟩ := Aub n d h2
  refine At ?_
  rw [e1, e2, e3]
 ·have ⟨k1, k2⟩ := Dk h1
  have ⟨k3, k4⟩ := Dk h2
  obtain ⟨e1, e2, e3⟩ := An3 n d k1 k2 k3 k4
  refine B6 (fun h4 => ?_) (fun h4 => ?_)
  ·simp at h4
   refine At ?_
   rw [e1, e2, e3, h4.1, h4.2]
  ·refine At ?_
   rw [e1, e2, e3]
 ·rw [Vq, h1, h2] at h3; simp at h3
abbrev A6b : PureT := B4 [cI, cI] [.st [cI, cI], cI] (fun x => true) (fun x => ((DvW x.1 x.2.1, DvR x.1 x.2.1, ()), DvE x.1 x.2.1, ()))
theorem Ank : A7 Tryz.prog 206 A6b := B2 (Ad Ab B6m (fns_cons is_bD A2)) 2 (fun x => B1m x.1 x.2.1) (fun x => by kernel_rfl) fun x hok hw => Auo
end V
def tbB : ByteArray := ⟨((List.range 256).map fun i => UInt8.ofNat (if i = 0 then 0 else Nat.log2 i + 1)).toArray⟩
def Aup (i : Nat) : Int := ((tbB.data.toList.getD i 0).toNat : Int)
theorem Auq : ∀ i, i < 256 → (tbB.data.toList.getD i 0).toNat = bl i := by decide +kernel
theorem Anl (i : Nat) (h : i < 256) : Aup i = bl i := by unfold Aup; rw [Auq i h]
attribute [irreducible] Aup tbB
def Anm (n k : Int) : Int := n.fdiv (2 ^ min (Int.toNat k) IntKind.u64.bits)
def Aur (m s : Int) : Tree (TCTs [cI]) := bif decide (0 ≤ IntKind.u8.wrap m ∧ IntKind.u8.wrap m < 256) then .leaf (IntKind.i64.wrap (s + IntKind.i64.wrap (Aup (IntKind.u8.wrap m).toNat)), ()) else .fail
def Aus (m s : Int) : Tree (TCTs [cI]) := bif decide (m ≥ 256) then Aur (Anm m 8) (IntKind.i64.wrap (s + 8)) else Aur m s
def A24 (m s : Int) : Tree (TCTs [cI]) := bif decide (m ≥ 65536) then Aus (Anm m 16) (IntKind.i64.wrap (s + 16)) else Aus m s
def B1n (n : Int) : Tree (TCTs [cI]) := bif decide (n ≥ 4294967296) then A24 (Anm n 32) 32 else A24 n 0
section
attribute [local irreducible] Tree.sat
theorem W0 (n k : Nat) (hk : k ≤ 64) : Anm (n : Int) (k : Int) = ((n / 2 ^ k : Nat) : Int) := by
 unfold Anm
 have : min (Int.toNat (k : Int)) IntKind.u64.bits = k := by simp [IntKind.bits]; omega
 rw [this, Int.fdiv_eq_ediv_of_nonneg _ (by exact Int.le_of_lt (Int.pow_pos (by decide)))]
 simp
theorem Afu (m : Nat) (h : m < 256) : IntKind.u8.wrap (m : Int) = m := by
 unfold IntKind.wrap; simp [IntKind.bits, IntKind.signed]; omega
theorem Adf {R : TCTs [cI] → Prop} (m s : Nat) (hm : m < 256) (hs : s ≤ 56) (h : R (((s + bl m : Nat) : Int), ())) : (Aur (m : Int) (s : Int)).sat R := by
 unfold Aur
 rw [Afu m hm]
 have hb : bl m ≤ 8 := Vr m 8 (by omega)
 refine B6 (fun _ => ?_) (fun h => ?_)
 ·rw [Int.toNat_natCast, Anl m hm, A6 (n := (bl m : Int)) (by omega) (by omega), A6 (n := (s : Int) + (bl m : Int)) (by omega) (by omega)]
  refine At ?_
  rw [← Int.natCast_add]; exact h
 ·have := of_decide_eq_false h; omega
theorem Adg {R : TCTs [cI] → Prop} (m s : Nat) (hm : m < 65536) (hs : s ≤ 48) (h : R (((s + bl m : Nat) : Int), ())) : (Aus (m : Int) (s : Int)).sat R := by
 unfold Aus
 refine B6 (fun h1 => ?_) (fun h1 => ?_)
 ·have h2 := of_decide_eq_true h1
  rw [A6 (n := (s : Int) + 8) (by omega) (by omega)]
  have e1 := W0 m 8 (by omega)
  simp only [Int.cast_ofNat_Int] at e1
  rw [e1]
  have e2 : (s : Int) + 8 = ((s + 8 : Nat) : Int) := by simp
  rw [e2]
  refine Adf (m / 2 ^ 8) (s + 8) (by omega) (by omega) ?_
  have := A9s m 8 (by omega)
  rwa [show s + 8 + bl (m / 2 ^ 8) = s + bl m by omega]
 ·have h2 := of_decide_eq_false h1
  exact Adf m s (by omega) (by omega) h
theorem Adh {R : TCTs [cI] → Prop} (m s : Nat) (hm : m < 4294967296) (hs : s ≤ 32) (h : R (((s + bl m : Nat) : Int), ())) : (A24 (m : Int) (s : Int)).sat R := by
 unfold A24
 refine B6 (fun h1 => ?_) (fun h1 => ?_)
 ·have h2 := of_decide_eq_true h1
  rw [A6 (n := (s : Int) + 16) (by omega) (by omega)]
  have e1 := W0 m 16 (by omega)
  simp only [Int.cast_ofNat_Int] at e1
  rw [e1]
  have e2 : (s : Int) + 16 = ((s + 16 : Nat) : Int) := by simp
  rw [e2]
  refine Adg (m / 2 ^ 16) (s + 16) (by omega) (by omega) ?_
  have := A9s m 16 (by omega)
  rwa [show s + 16 + bl (m / 2 ^ 16) = s + bl m by omega]
 ·have h2 := of_decide_eq_false h1
  exact Adg m s (by omega) (by omega) h
theorem Aut {R : TCTs [cI] → Prop} (n : Int) (h0 : 0 ≤ n) (h1 : n ≤ 18446744073709551615) (h : R ((bl n.toNat : Int), ())) : (B1n n).sat R := by
 obtain ⟨m, rfl⟩ := Int.eq_ofNat_of_zero_le h0
 rw [Int.toNat_natCast] at h
 unfold B1n
 refine B6 (fun h1 => ?_) (fun h1 => ?_)
 ·have h2 := of_decide_eq_true h1
  have e1 := W0 m 32 (by omega)
  simp only [Int.cast_ofNat_Int] at e1
  rw [e1]
  refine Adh (m / 2 ^ 32) 32 (by omega) (by omega) ?_
  have := A9s m 32 (by omega)
  rwa [show 32 + bl (m / 2 ^ 32) = bl m by omega]
 ·have h2 := of_decide_eq_false h1
  exact Adh m 0 (by omega) (by omega) (by rwa [Nat.zero_add])
end
abbrev A25 : PureT := B4 [.i .u64] [cI] (fun _ => true) (fun x => ((bl x.1.toNat : Int), ()))
theorem Ann : A7 Tryz.prog 150 A25 := B2 (Ad Ab A9 (fns_cons is_bG A2)) 2 (fun x => B1n x.1) (fun x => by kernel_rfl) fun x _ hw => Aut x.1 hw.1.1 hw.1.2 rfl
theorem Afv : Bu Tryz.prog [(150, A25)] := A0 is_bG.plain Ann A9
noncomputable def Adi : Code := (A8 (bodyOf Tryz.f110)).getD 0 .skip
def M2 : Lay := { keys := [0, 3], ks := [.d cI, .d cI], bs := [], n := 25, nx := 1000, marks := [] }
def Auu : Lay := { keys := [2], ks := [.d cI], bs := [], n := 25, nx := 1000, marks := [] }
def Oy : XE → Lay := fun _ => Auu
def Nc (n x : Int) : M2.T := ((n, x, ()), ())
def A26 (r : Int) : A1 Oy := ⟨.ret, ((r, ()), ())⟩
def Tt (n x : Int) : Int := IntKind.i64.wrap ((IntKind.i64.wrap (x + IntKind.i64.wrap (n.tdiv x))).tdiv 2)
def W1 (n x : Int) : Tree (M2.T ⊕ A1 Oy) := bif x != 0 then bif decide (Tt n x ≥ x) then .leaf (.inr (A26 x)) else .leaf (.inl (Nc n (Tt n x))) else .fail
def Nd (g : M2.T) : Tree (M2.T ⊕ A1 Oy) := W1 g.1.1 g.1.2.1
def A27 (g : M2.T) : Nat := Int.toNat g.1.2.1 + 1
theorem B1o : Aj Tryz.prog 110 Adi (Ac M2 Oy (C3 [.ret] Nd A27)) := Ay (Ad Ab A9 A2) 1 _ M2 Oy (fun _ => Nat.le_refl _) [.ret] Nd A27 (fun g => by kernel_rfl)
theorem Adj {n : Int} (h1 : 2 ≤ n) (h2 : n ≤ 4611686018427387904) : ∀ (k : Nat) (x : Int), 1 ≤ x → x ≤ 4294967296 → rt n ≤ x → x.toNat ≤ k → iter Nd (k + 1) (Nc n x) = some (A26 (rt n))
 | 0, x, h3, _, _, hk => by omega
 | k + 1, x, h3, h4, h5, hk => by
  have hq := Int.ediv_nonneg (show 0 ≤ n by omega) (show 0 ≤ x by omega)
  have hq2 := Int.ediv_le_self x (show 0 ≤ n by omega)
  have e1 : Tt n x = (x + n / x) / 2 := by
   unfold Tt
   rw [Int.tdiv_eq_ediv_of_nonneg (show 0 ≤ n by omega), A6 (n := n / x) (by omega) (by omega), A6 (n := x + n / x) (by omega) (by omega), Int.tdiv_eq_ediv_of_nonneg (by omega), A6 (by omega) (by omega)]
  have hge := Afo n x (by omega) h3
  have hx0 : (x != 0) = true := by simp; omega
  have hs : Nd (Nc n x) = bif decide ((x + n / x) / 2 ≥ x) then .leaf (.inr (A26 x)) else .leaf (.inl (Nc n ((x + n / x) / 2))) := by
   show W1 n x = _
   unfold W1
   rw [hx0, e1]
   rfl
  cases hd : decide ((x + n / x) / 2 ≥ x) with
  | true =>
   have h7 := of_decide_eq_true hd
   have hx := A9t n x (by omega) h3 h5 (by omega)
   rw [← hx]
   exact Ek (by rw [hs, hd]; rfl)
  | false =>
   have h7 := of_decide_eq_false hd
   have hr := (Ga n (by omega)).1
   have hpos : 1 ≤ (x + n / x) / 2 := by
    have : 1 ≤ rt n := by
     have hc := (Ga n (by omega)).2.2
     rcases Int.lt_or_le (rt n) 1 with k | k
     ·have : rt n = 0 := by omega
      rw [this] at hc; omega
     ·exact k
    omega
   rw [Lb (g' := Nc n ((x + n / x) / 2)) (by rw [hs, hd]; rfl)]
   exact Adj h1 h2 k _ hpos (by omega) hge (by omega)
theorem Ano (n : Int) (h0 : 0 ≤ n) (h : n < 2) : rt n = n := Zu n n h0 (by rcases (show n = 0 ∨ n = 1 by omega) with rfl | rfl <;> decide) (by rcases (show n = 0 ∨ n = 1 by omega) with rfl | rfl <;> decide)
def Afw (n : Int) : Bool := decide (0 ≤ n ∧ n ≤ 4611686018427387904)
def RtV (n : Int) : Int := if Afw n then rt n else 0
def RtE (n : Int) : Int := if Afw n then 0 else 3
abbrev W3 : PureT := B4 [cI] [cI] (fun x => decide (0 ≤ x.1 ∧ x.1 ≤ 4611686018427387904)) (fun x => (rt x.1, ()))
noncomputable def B1p : Ctx := Hk Tryz.prog [(150, A25)] [(110, Tryz.f110)] [((110, V.keyOf Adi), Ac M2 Oy (C3 [.ret] Nd A27))]
theorem Afx : CtxOk B1p := Bw Ab Afv (fns_cons is_bF A2) (Bk rfl (by kernel_rfl) B1o)
def A28 (n : Int) : Int := IntKind.i64.wrap (1 * 2 ^ min (IntKind.i64.wrap ((IntKind.i64.wrap ((bl (IntKind.u64.wrap n).toNat : Int) + 1)).tdiv 2)).toNat IntKind.i64.bits)
def Aa3 (n : Int) : Option (A1 Oy) := iter Nd (Int.toNat (A28 n) + 1) (Nc n (A28 n))
def Aa4 (n : Int) : Tree (TCTs [cI]) := bif decide (n < 2) then .leaf (n, ()) else bif decide (0 ≤ IntKind.i64.wrap ((IntKind.i64.wrap ((bl (IntKind.u64.wrap n).toNat : Int) + 1)).tdiv 2)) then bif isE .ret (Aa3 n) then .leaf ((C0 .ret (Aa3 n)).1.1, ()) else .fail else .fail
theorem Afy {n : Int} (h0 : 0 ≤ n) (h1 : n ≤ 4611686018427387904) : (Aa4 n).sat (fun y => y = (rt n, ())) := by
 unfold Aa4 Aa3 A28
 have hwr : IntKind.u64.wrap n = n := by unfold IntKind.wrap; simp [IntKind.bits, IntKind.signed]; omega
 have hb : bl n.toNat ≤ 63 := Vr _ 63 (by omega)
 rw [hwr, A6 (n := (bl n.toNat : Int) + 1) (by omega) (by omega), Int.tdiv_eq_ediv_of_nonneg (by omega), A6 (n := ((bl n.toNat : Int) + 1) / 2) (by omega) (by omega)]
 refine B6 (fun h2 => ?_) (fun h2 => B6 (fun h3 => ?_) (fun h3 => ?_))
 ·have := of_decide_eq_true h2
  refine At ?_
  rw [Ano n h0 this]
 ·have h5 := of_decide_eq_false h2
  have e2 : min (((bl n.toNat : Int) + 1) / 2).toNat IntKind.i64.bits = (bl n.toNat + 1) / 2 := by simp [IntKind.bits]; omega
  rw [e2, Int.one_mul]
  have hs := A1w n h0
  have hk : (bl n.toNat + 1) / 2 ≤ 32 := by omega
  have hp1 : (1 : Int) ≤ 2 ^ ((bl n.toNat + 1) / 2) := Int.pow_pos (by decide)
  have hp2 : (2 : Int) ^ ((bl n.toNat + 1) / 2) ≤ 4294967296 := by
   have : 2 ^ ((bl n.toNat + 1) / 2) ≤ 2 ^ 32 := Nat.pow_le_pow_right (by decide) hk
   have h6 : ((2 ^ ((bl n.toNat + 1) / 2) : Nat) : Int) ≤ ((2 ^ 32 : Nat) : Int) := by exact_mod_cast this
   rw [Int.natCast_pow] at h6
   simpa using h6
  generalize (2 : Int) ^ ((bl n.toNat + 1) / 2) = y at hs hp1 hp2
  rw [A6 (by omega) (by omega)]
  have hr := Axr n y h0 (by omega) hs
  rw [Adj (by omega) h1 y.toNat y hp1 hp2 hr (Nat.le_refl _)]
  exact At rfl
 ·have := of_decide_eq_false h3; omega
theorem Adk : A7 Tryz.prog 110 W3 := B2 Afx 3 (fun x => Aa4 x.1) (fun x => by kernel_rfl) fun x hok _ => Afy (of_decide_eq_true hok).1 (of_decide_eq_true hok).2
theorem Anp : Bu Tryz.prog [(110, W3), (109, K4)] := A0 is_bF.plain Adk B6l
namespace V
def Aa5 (n : Int) : Tree (TCTs [cI, cI]) :=
 bif Aw n 0 4611686018427387904 then .leaf (0, 3, ()) else bif decide (0 ≤ n ∧ n ≤ 4611686018427387904) then .leaf ((rt n), 0, ()) else .fail
theorem Afz {n : Int} : (Aa5 n).sat (fun y => y = (RtV n, RtE n, ())) := by
 unfold Aa5
 refine B6 (fun h1 => ?_) (fun h1 => B6 (fun h2 => ?_) (fun h2 => ?_))
 ·have : Afw n = false := by
   unfold Aw at h1; unfold Afw
   simp at h1
   exact decide_eq_false (by omega)
  refine At ?_
  unfold RtV RtE; rw [this]; rfl
 ·have : Afw n = true := h2
  refine At ?_
  unfold RtV RtE; rw [this]; rfl
 ·have := Dk h1
  have := of_decide_eq_false h2; omega
abbrev Anq : PureT := B4 [cI] [cI, cI] (fun x => true) (fun x => (RtV x.1, RtE x.1, ()))
theorem B1q : A7 Tryz.prog 185 Anq := B2 (Ad Ab Anp (fns_cons is_bE A2)) 2 (fun x => Aa5 x.1) (fun x => by kernel_rfl) fun x hok hw => Afz
end V
theorem Ag0 {x lo hi : Int} (h : Aw x lo hi = false) : lo ≤ x ∧ x ≤ hi := by
 unfold Aw at h
 simp only [Bool.or_eq_false_iff, decide_eq_false_iff_not] at h
 omega
def Tg (x y : Int) : Bool := decide (max (max (max x (IntKind.i64.wrap (0 - x))) y) (IntKind.i64.wrap (0 - y)) > 4194304)
def Th (x y : Int) : Bool := decide (min x y < -4194304)
def fpt (x y : Int) : Bool := decide (-4194304 ≤ x ∧ x ≤ 4194304 ∧ -4194304 ≤ y ∧ y ≤ 4194304)
theorem A6c (x : Int) (h1 : -9223372036854775808 ≤ x) (h2 : x ≤ 9223372036854775807) : IntKind.i64.wrap (0 - x) = if x = -9223372036854775808 then x else -x := by
 split
 ·rename_i h; subst h; rfl
 ·rw [A6 (by omega) (by omega)]; omega
theorem Anr {x y : Int} (hx : inK .i64 x) (hy : inK .i64 y) (h : Tg x y = true) : fpt x y = false := by
 simp only [inK, Hg, As] at hx hy
 unfold Tg at h; unfold fpt
 have h1 := of_decide_eq_true h
 rw [A6c x (by omega) (by omega), A6c y (by omega) (by omega)] at h1
 refine decide_eq_false ?_
 split at h1 <;> split at h1 <;> omega
theorem Ans {x y : Int} (h : Th x y = true) : fpt x y = false := by
 unfold Th at h; unfold fpt
 have h1 := of_decide_eq_true h
 refine decide_eq_false ?_
 omega
theorem B1r {x y : Int} (h : Tg x y = false) (k : Th x y = false) : fpt x y = true := by
 unfold Tg at h; unfold Th at k; unfold fpt
 have h1 := of_decide_eq_false h
 have k1 := of_decide_eq_false k
 refine decide_eq_true ?_
 omega
theorem M3 {x y : Int} (h : fpt x y = true) : -4194304 ≤ x ∧ x ≤ 4194304 ∧ -4194304 ≤ y ∧ y ≤ 4194304 := of_decide_eq_true h
theorem Kl {α : Type} {R : α → Prop} {x y : Int} {t u : Tree α} (hx : inK .i64 x) (hy : inK .i64 y) (h1 : fpt x y = false → t.sat R) (h2 : fpt x y = true → u.sat R) : (bif Tg x y then t else bif Th x y then t else u).sat R :=
 B6 (fun h => h1 (Anr hx hy h)) (fun h => B6 (fun k => h1 (Ans k)) (fun k => h2 (B1r h k)))
def Q1 (x y : Int) : Int := bif fpt x y then 0 else 2
def Iv (x y r : Int) : Bool := fpt x y && !Aw r 1 65536
def Ro (x y r : Int) : Int := bif Iv x y r then 0 else 2
namespace V
def Ant (ax ay : Int) : Tree (TCTs [cI]) :=
 bif Tg ax ay then .leaf (2, ()) else bif Th ax ay then .leaf (2, ()) else .leaf (0, ())
theorem Anu {ax ay : Int} (a1 : inK .i64 ax) (a2 : inK .i64 ay) : (Ant ax ay).sat (fun y => y = (Q1 ax ay, ())) := by
 unfold Ant
 refine Kl a1 a2 (fun k => ?_) (fun k => ?_) <;> (refine At ?_; unfold Q1; rw [k]; rfl)
abbrev Q2 : PureT := B4 [cPt] [cI] (fun x => true) (fun x => (Q1 x.1.1 x.1.2.1, ()))
theorem Tu : A7 Tryz.prog 50 Q2 := B2 (Ad Ab A9 (fns_cons Vx (fns_cons is_bH A2))) 3 (fun x => Ant x.1.1 x.1.2.1) (fun x => by kernel_rfl) fun x hok hw => Anu hw.1.1 hw.1.2.1
def Anv (px py r : Int) : Tree (TCTs [cI]) :=
 bif Tg px py then .leaf (2, ()) else bif Th px py then .leaf (2, ()) else
    bif decide (r < 1) then .leaf (2, ()) else bif decide (r > 65536) then .leaf (2, ()) else .leaf (0, ())
theorem Anw {px py r : Int} (a1 : inK .i64 px) (a2 : inK .i64 py) : (Anv px py r).sat (fun y => y = (Ro px py r, ())) := by
 unfold Anv
 refine Kl a1 a2 (fun k => ?_) (fun k1 => B6 (fun k => ?_) (fun k2 => B6 (fun k => ?_) (fun k3 => ?_)))
 ·refine At ?_
  unfold Ro Iv; rw [k]; rfl
 ·refine At ?_
  unfold Ro Iv Aw; rw [k1, k]; rfl
 ·have k' : decide (65536 < r) = true := k
  refine At ?_
  unfold Ro Iv Aw; rw [k1, k2, k']; rfl
 ·have k' : decide (65536 < r) = false := k3
  refine At ?_
  unfold Ro Iv Aw; rw [k1, k2, k']; rfl
abbrev Jb : PureT := B4 [Al] [cI] (fun x => true) (fun x => (Ro x.1.1.1 x.1.1.2.1 x.1.2.1, ()))
theorem Sr : A7 Tryz.prog 188 Jb := B2 (Ad Ab A9 (fns_cons is_bI (fns_cons is_bH A2))) 3 (fun x => Anv x.1.1.1 x.1.1.2.1 x.1.2.1) (fun x => by kernel_rfl) fun x hok hw => Anw hw.1.1.1 hw.1.1.2.1
end V
def Anx (ax ay bx bY : Int) : Tree (TCTs [cI]) :=
 .leaf ((IntKind.i64.wrap (IntKind.i64.wrap (IntKind.i64.wrap (bx - ax) * IntKind.i64.wrap (bx - ax)) + IntKind.i64.wrap (IntKind.i64.wrap (bY - ay) * IntKind.i64.wrap (bY - ay)))), ())
theorem Any {ax ay bx bY : Int} (hok : (fpt ax ay && fpt bx bY) = true) : (Anx ax ay bx bY).sat (fun y => y = (sq ax ay bx bY, ())) := by
 unfold Anx
 rw [Bool.and_eq_true] at hok
 have c1 := M3 hok.1
 have c2 := M3 hok.2
 have b1 := C6 (a := bx - ax) (b := bx - ax) (A := 8388608) (B := 8388608) (by omega) (by omega) (by omega) (by omega)
 have b2 := C6 (a := bY - ay) (b := bY - ay) (A := 8388608) (B := 8388608) (by omega) (by omega) (by omega) (by omega)
 rw [A6 (n := bx - ax) (by omega) (by omega), A6 (n := bY - ay) (by omega) (by omega), A6 (n := (bx - ax) * (bx - ax)) (by omega) (by omega), A6 (n := (bY - ay) * (bY - ay)) (by omega) (by omega), A6 (n := (bx - ax) * (bx - ax) + (bY - ay) * (bY - ay)) (by omega) (by omega)]
 refine At ?_
 unfold sq; rfl
abbrev A6d : PureT := B4 [cPt, cPt] [cI] (fun x => fpt x.1.1 x.1.2.1 && fpt x.2.1.1 x.2.1.2.1) (fun x => (sq x.1.1 x.1.2.1 x.2.1.1 x.2.1.2.1, ()))
theorem Ag1 : A7 Tryz.prog 111 A6d := B2 (Ad Ab A9 (fns_cons is_bJ A2)) 2 (fun x => Anx x.1.1 x.1.2.1 x.2.1.1 x.2.1.2.1) (fun x => by kernel_rfl) fun x hok hw => Any hok
def B1s : List (Nat × PureT) := [(111, A6d), (110, W3), (112, Vz), (109, K4)]
theorem Anz : Bu Tryz.prog B1s := A0 is_bJ.plain Ag1 (A0 is_bF.plain Adk B6m)
def SqR (ax ay bx bY : Int) : Int × Int := bif fpt ax ay && fpt bx bY then (sq ax ay bx bY, 0) else (0, 2)
namespace V
def Ao0 (ax ay bx bY : Int) : Tree (TCTs [cI, cI]) :=
 bif Tg ax ay then .leaf (0, 2, ()) else bif Th ax ay then .leaf (0, 2, ()) else
    bif Tg bx bY then .leaf (0, 2, ()) else bif Th bx bY then .leaf (0, 2, ()) else
    bif fpt ax ay && fpt bx bY then .leaf ((sq ax ay bx bY), 0, ()) else .fail
theorem Ao1 {ax ay bx bY : Int} (a1 : inK .i64 ax) (a2 : inK .i64 ay) (a3 : inK .i64 bx) (a4 : inK .i64 bY) : (Ao0 ax ay bx bY).sat (fun y => y = ((SqR ax ay bx bY).1, (SqR ax ay bx bY).2, ())) := by
 unfold Ao0
 refine Kl a1 a2 (fun k => ?_) (fun k1 => Kl a3 a4 (fun k => ?_) (fun k2 => ?_))
 ·refine At ?_
  unfold SqR; rw [k]; rfl
 ·refine At ?_
  unfold SqR; rw [k1, k]; rfl
 ·rw [k1, k2]
  refine At ?_
  unfold SqR; rw [k1, k2]; rfl
abbrev Ao2 : PureT := B4 [cPt, cPt] [cI, cI] (fun x => true) (fun x => ((SqR x.1.1 x.1.2.1 x.2.1.1 x.2.1.2.1).1, (SqR x.1.1 x.1.2.1 x.2.1.1 x.2.1.2.1).2, ()))
theorem Ao3 : A7 Tryz.prog 201 Ao2 := B2 (Ad Ab Anz (fns_cons is_bK (fns_cons is_bH A2))) 3 (fun x => Ao0 x.1.1 x.1.2.1 x.2.1.1 x.2.1.2.1) (fun x => by kernel_rfl) fun x hok hw => Ao1 hw.1.1 hw.1.2.1 hw.2.1.1 hw.2.1.2.1
end V
def ToX (px qx d l : Int) : Int := qx + DW (64 * l * (px - qx)) d
def dTo (px py qx qy : Int) : Int := rt (sq px py qx qy * 4096)
def TwR (px py qx qy l : Int) : (Int × Int) × Int :=
 bif fpt px py && fpt qx qy then bif Aw l 0 4194304 then ((0, 0), 3) else bif px == qx && py == qy then ((0, 0), 9) else
  bif fpt (ToX px qx (dTo px py qx qy) l) (ToX py qy (dTo px py qx qy) l) then ((ToX px qx (dTo px py qx qy) l, ToX py qy (dTo px py qx qy) l), 0) else ((0, 0), 4)
 else ((0, 0), 2)
theorem Ao4 {px py qx qy : Int} (h : fpt px py = true) (k : fpt qx qy = true) : 0 ≤ sq px py qx qy ∧ sq px py qx qy ≤ 140737488355328 := by
 have c1 := M3 h
 have c2 := M3 k
 have b1 := C6 (a := qx - px) (b := qx - px) (A := 8388608) (B := 8388608) (by omega) (by omega) (by omega) (by omega)
 have b2 := C6 (a := qy - py) (b := qy - py) (A := 8388608) (B := 8388608) (by omega) (by omega) (by omega) (by omega)
 have b3 := Ja (qx - px)
 have b4 := Ja (qy - py)
 unfold sq; omega
theorem Ao5 {px py qx qy : Int} (h : fpt px py = true) (k : fpt qx qy = true) (hne : ¬ (px = qx ∧ py = qy)) : 1 ≤ dTo px py qx qy ∧ dTo px py qx qy ≤ 576460752303423488 := by
 have h1 := Ao4 h k
 have h2 := B1h hne
 obtain ⟨r1, r2, r3⟩ := Ga (sq px py qx qy * 4096) (by omega)
 unfold dTo
 generalize rt (sq px py qx qy * 4096) = d at r1 r2 r3
 have hd : 1 ≤ d := by
  rcases Int.lt_or_le d 1 with x | x
  ·have : d = 0 := by omega
   subst this
   omega
  ·exact x
 have := Int.mul_le_mul_of_nonneg_left hd (show 0 ≤ d by omega)
 omega
namespace V
def B1t (px py qx qy l : Int) : Tree (TCTs [cPt, cI]) :=
 let d := rt (IntKind.i64.wrap (sq px py qx qy * 4096))
    let ux := IntKind.i64.wrap (IntKind.i64.wrap (64 * l) * IntKind.i64.wrap (px - qx))
    let uy := IntKind.i64.wrap (IntKind.i64.wrap (64 * l) * IntKind.i64.wrap (py - qy))
    bif Tg px py then .leaf ((0, 0, ()), 2, ()) else bif Th px py then .leaf ((0, 0, ()), 2, ()) else
    bif Tg qx qy then .leaf ((0, 0, ()), 2, ()) else bif Th qx qy then .leaf ((0, 0, ()), 2, ()) else
    bif Aw l 0 4194304 then .leaf ((0, 0, ()), 3, ()) else
    bif px == qx && (py == qy && true) then .leaf ((0, 0, ()), 9, ()) else
    bif fpt px py && fpt qx qy then bif decide (0 ≤ IntKind.i64.wrap (sq px py qx qy * 4096) ∧ IntKind.i64.wrap (sq px py qx qy * 4096) ≤ 4611686018427387904) then
    bif F4 ux d then bif F4 uy d then
    bif Tg (IntKind.i64.wrap (qx + DW ux d)) (IntKind.i64.wrap (qy + DW uy d)) then .leaf ((0, 0, ()), 4, ()) else bif Th (IntKind.i64.wrap (qx + DW ux d)) (IntKind.i64.wrap (qy + DW uy d)) then .leaf ((0, 0, ()), 4, ()) else
     .leaf (((IntKind.i64.wrap (qx + DW ux d)), (IntKind.i64.wrap (qy + DW uy d)), ()), 0, ())
    else .fail else .fail else .fail else .fail
theorem Auv {px py qx qy l : Int} (a1 : inK .i64 px) (a2 : inK .i64 py) (a3 : inK .i64 qx) (a4 : inK .i64 qy) : (B1t px py qx qy l).sat (fun y => y = (((TwR px py qx qy l).1.1, (TwR px py qx qy l).1.2, ()), (TwR px py qx qy l).2, ())) := by
 unfold B1t
 dsimp only
 refine Kl a1 a2 (fun k => ?_) (fun k1 => Kl a3 a4 (fun k => ?_) (fun k2 => B6 (fun k => ?_) (fun k3 => B6 (fun k => ?_) (fun k4 => ?_))))
 ·refine At ?_
  unfold TwR; rw [k]; rfl
 ·refine At ?_
  unfold TwR; rw [k1, k]; rfl
 ·refine At ?_
  unfold TwR; rw [k1, k2, k]; rfl
 ·refine At ?_
  rw [Bool.and_true] at k
  unfold TwR; rw [k1, k2, k3, k]; rfl
 ·have c1 := M3 k1
  have c2 := M3 k2
  have c3 := Ag0 k3
  rw [Bool.and_true] at k4
  have hne : ¬ (px = qx ∧ py = qy) := by
   intro hh; simp [hh.1, hh.2] at k4
  have s1 := Ao4 k1 k2
  have hd := Ao5 k1 k2 hne
  have b1 := C6 (a := 64 * l) (b := px - qx) (A := 268435456) (B := 8388608) (by omega) (by omega) (by omega) (by omega)
  have b2 := C6 (a := 64 * l) (b := py - qy) (A := 268435456) (B := 8388608) (by omega) (by omega) (by omega) (by omega)
  rw [A6 (n := sq px py qx qy * 4096) (by omega) (by omega), A6 (n := 64 * l) (by omega) (by omega), A6 (n := px - qx) (by omega) (by omega), A6 (n := py - qy) (by omega) (by omega), A6 (n := 64 * l * (px - qx)) (by omega) (by omega), A6 (n := 64 * l * (py - qy)) (by omega) (by omega)]
  have hdd : rt (sq px py qx qy * 4096) = dTo px py qx qy := rfl
  rw [hdd]
  have w1 := A5q (64 * l * (px - qx)) (dTo px py qx qy) 2251799813685248 hd.1 (by omega) (by omega) (by omega)
  have w2 := A5q (64 * l * (py - qy)) (dTo px py qx qy) 2251799813685248 hd.1 (by omega) (by omega) (by omega)
  rw [A6 (n := qx + DW (64 * l * (px - qx)) (dTo px py qx qy)) (by omega) (by omega), A6 (n := qy + DW (64 * l * (py - qy)) (dTo px py qx qy)) (by omega) (by omega)]
  have v1 : F4 (64 * l * (px - qx)) (dTo px py qx qy) = true := by unfold F4; exact decide_eq_true (by omega)
  have v2 : F4 (64 * l * (py - qy)) (dTo px py qx qy) = true := by unfold F4; exact decide_eq_true (by omega)
  rw [k1, k2, v1, v2]
  have v3 : decide (0 ≤ sq px py qx qy * 4096 ∧ sq px py qx qy * 4096 ≤ 4611686018427387904) = true := decide_eq_true (by omega)
  rw [v3]
  have hT : TwR px py qx qy l = bif fpt (ToX px qx (dTo px py qx qy) l) (ToX py qy (dTo px py qx qy) l) then ((ToX px qx (dTo px py qx qy) l, ToX py qy (dTo px py qx qy) l), 0) else ((0, 0), 4) := by
   unfold TwR; rw [k1, k2, k3, k4]; rfl
  rw [hT]
  simp only [cond_true, Bool.and_self]
  refine Kl ?_ ?_ (fun k => ?_) (fun k => ?_)
  ·simp only [inK, Hg, As]; omega
  ·simp only [inK, Hg, As]; omega
  ·have k' : fpt (ToX px qx (dTo px py qx qy) l) (ToX py qy (dTo px py qx qy) l) = false := k
   rw [k']; exact At rfl
  ·have k' : fpt (ToX px qx (dTo px py qx qy) l) (ToX py qy (dTo px py qx qy) l) = true := k
   rw [k']; exact At rfl
abbrev Aa6 : PureT := B4 [cPt, cPt, cI] [cPt, cI] (fun x => true) (fun x => (((TwR x.1.1 x.1.2.1 x.2.1.1 x.2.1.2.1 x.2.2.1).1.1, (TwR x.1.1 x.1.2.1 x.2.1.1 x.2.1.2.1 x.2.2.1).1.2, ()), (TwR x.1.1 x.1.2.1 x.2.1.1 x.2.1.2.1 x.2.2.1).2, ()))
theorem Aa7 : A7 Tryz.prog 56 Aa6 := B2 (Ad Ab Anz (fns_cons is_bL (fns_cons is_bH A2))) 3 (fun x => B1t x.1.1 x.1.2.1 x.2.1.1 x.2.1.2.1 x.2.2.1) (fun x => by kernel_rfl) fun x hok hw => Auv hw.1.1 hw.1.2.1 hw.2.1.1 hw.2.1.2.1
end V
def B1u (a b c : Int) : Tree (TCTs [.b]) :=
 bif decide (a ≥ b) then .leaf ((decide (a ≤ c)), ()) else .leaf (false, ())
theorem Auw {a b c : Int} : (B1u a b c).sat (fun y => y = (!Aw a b c, ())) := by
 unfold B1u
 refine B6 (fun h1 => ?_) (fun h1 => ?_)
 ·have h2 := of_decide_eq_true h1
  refine At ?_
  congr 1
  unfold Aw
  rw [Bool.eq_iff_iff]
  simp only [decide_eq_true_eq, Bool.not_eq_true', Bool.or_eq_false_iff, decide_eq_false_iff_not]
  omega
 ·have h2 := of_decide_eq_false h1
  refine At ?_
  congr 1
  have : Aw a b c = true := by unfold Aw; simp; omega
  rw [this]; rfl
abbrev A29 : PureT := B4 [cI, cI, cI] [.b] (fun x => true) (fun x => (!Aw x.1 x.2.1 x.2.2.1, ()))
theorem A6e : A7 Tryz.prog 117 A29 := B2 (Ad Ab A9 (fns_cons is_bM A2)) 2 (fun x => B1u x.1 x.2.1 x.2.2.1) (fun x => by kernel_rfl) fun x hok hw => Auw
def B1v : List (Nat × PureT) := [(117, A29)]
theorem B1w : Bu Tryz.prog B1v := A0 is_bM.plain A6e A9
theorem Aux (x y : Int) : fpt x y = (!Aw x (-4194304) 4194304 && !Aw y (-4194304) 4194304) := by
 unfold fpt Aw
 rw [Bool.eq_iff_iff]
 simp only [decide_eq_true_eq, Bool.and_eq_true, Bool.not_eq_true', Bool.or_eq_false_iff, decide_eq_false_iff_not]
 omega
namespace V
def B1x (x y : Int) : Tree (TCTs [.b]) :=
 bif !Aw x (-4194304) 4194304 then .leaf ((!Aw y (-4194304) 4194304), ()) else .leaf (false, ())
theorem Auy {x y : Int} : (B1x x y).sat (fun z => z = (fpt x y, ())) := by
 unfold B1x
 rw [Aux]
 refine B6 (fun h1 => ?_) (fun h1 => ?_) <;> (refine At ?_; rw [h1]; rfl)
abbrev A2a : PureT := B4 [cPt] [.b] (fun x => true) (fun x => (fpt x.1.1 x.1.2.1, ()))
theorem Adl : A7 Tryz.prog 116 A2a := B2 (Ad Ab B1w (fns_cons is_bN A2)) 2 (fun x => B1x x.1.1 x.1.2.1) (fun x => by kernel_rfl) fun x hok hw => Auy
def B1y (ax ay bx bY : Int) : Tree (TCTs [cI]) :=
 .leaf ((IntKind.i64.wrap (IntKind.i64.wrap (IntKind.i64.wrap (ax - bx) * IntKind.i64.wrap (ax - bx)) + IntKind.i64.wrap (IntKind.i64.wrap (ay - bY) * IntKind.i64.wrap (ay - bY)))), ())
theorem Auz {ax ay bx bY : Int} (hok : (fpt ax ay && fpt bx bY) = true) : (B1y ax ay bx bY).sat (fun y => y = (sq ax ay bx bY, ())) := by
 unfold B1y
 rw [Bool.and_eq_true] at hok
 have c1 := M3 hok.1
 have c2 := M3 hok.2
 have b1 := C6 (a := ax - bx) (b := ax - bx) (A := 8388608) (B := 8388608) (by omega) (by omega) (by omega) (by omega)
 have b2 := C6 (a := ay - bY) (b := ay - bY) (A := 8388608) (B := 8388608) (by omega) (by omega) (by omega) (by omega)
 rw [A6 (n := ax - bx) (by omega) (by omega), A6 (n := ay - bY) (by omega) (by omega), A6 (n := (ax - bx) * (ax - bx)) (by omega) (by omega), A6 (n := (ay - bY) * (ay - bY)) (by omega) (by omega), A6 (n := (ax - bx) * (ax - bx) + (ay - bY) * (ay - bY)) (by omega) (by omega)]
 refine At ?_
 have : (ax - bx) * (ax - bx) + (ay - bY) * (ay - bY) = sq ax ay bx bY := by unfold sq; grind
 rw [this]
abbrev B6n : PureT := B4 [cPt, cPt] [cI] (fun x => fpt x.1.1 x.1.2.1 && fpt x.2.1.1 x.2.1.2.1) (fun x => (sq x.1.1 x.1.2.1 x.2.1.1 x.2.1.2.1, ()))
theorem B6o : A7 Tryz.prog 155 B6n := B2 (Ad Ab A9 (fns_cons is_bO A2)) 2 (fun x => B1y x.1.1 x.1.2.1 x.2.1.1 x.2.1.2.1) (fun x => by kernel_rfl) fun x hok hw => Auz hok
end V
theorem B1z {n : Int} (h0 : 0 ≤ n) (h1 : n ≤ 4611686018427387904) : 0 ≤ rt n ∧ rt n ≤ 2147483648 := by
 obtain ⟨r1, r2, r3⟩ := Ga n h0
 refine ⟨r1, ?_⟩
 rcases Int.lt_or_le 2147483648 (rt n) with x | x
 ·have := Df (a := 2147483649) (b := rt n) (by omega) (by omega)
  omega
 ·exact x
noncomputable def Adm : Code := (A8 (bodyOf Tryz.f154)).getD 0 .skip
def M4 : Lay := { keys := [0, 3, 4], ks := [.d cI, .d cI, .d cI], bs := [], n := 23, nx := 1000, marks := [] }
def B20 : Lay := { keys := [3], ks := [.d cI], bs := [], n := 23, nx := 1000, marks := [] }
def Oz : XE → Lay := fun _ => B20
def H8 (n lo hi : Int) : M4.T := ((n, lo, hi, ()), ())
def Q3 (lo : Int) : A1 Oz := ⟨.exit 0, ((lo, ()), ())⟩
def Nf (lo hi : Int) : Int := IntKind.i64.wrap ((IntKind.i64.wrap (IntKind.i64.wrap (lo + hi) + 1)).tdiv 2)
def M5 (n lo hi : Int) : Tree (M4.T ⊕ A1 Oz) := bif decide (lo < hi) then bif decide (IntKind.i64.wrap (Nf lo hi * Nf lo hi) ≤ n) then .leaf (.inl (H8 n (Nf lo hi) hi)) else .leaf (.inl (H8 n lo (IntKind.i64.wrap (Nf lo hi - 1)))) else .leaf (.inr (Q3 lo))
def Km (g : M4.T) : Tree (M4.T ⊕ A1 Oz) := M5 g.1.1 g.1.2.1 g.1.2.2.1
def A2b (g : M4.T) : Nat := Int.toNat (g.1.2.2.1 - g.1.2.1) + 1
theorem B21 : Aj Tryz.prog 154 Adm (Ac M4 Oz (C3 [.exit 0] Km A2b)) := Ay (Ad Ab A9 A2) 1 _ M4 Oz (fun _ => Nat.le_refl _) [.exit 0] Km A2b (fun g => by kernel_rfl)
theorem Av0 {n : Int} (h1 : 0 ≤ n) (h2 : n ≤ 4611686018427387904) : ∀ (k : Nat) (lo hi : Int), 0 ≤ lo → lo ≤ rt n → rt n ≤ hi → hi ≤ 2147483648 → (hi - lo).toNat ≤ k → iter Km (k + 1) (H8 n lo hi) = some (Q3 (rt n)) := by
 intro k
 induction k with
 | zero =>
  intro lo hi h3 h4 h5 h6 hk
  have e1 : lo = rt n := by omega
  subst e1
  refine Ek ?_
  show (M5 n (rt n) hi).run = _
  unfold M5
  rw [decide_eq_false (show ¬ rt n < hi by omega)]
  rfl
 | succ k ih =>
  intro lo hi h3 h4 h5 h6 hk
  obtain ⟨r1, r2, r3⟩ := Ga n h1
  have em : Nf lo hi = (lo + hi + 1) / 2 := by
   unfold Nf
   rw [A6 (n := lo + hi) (by omega) (by omega), A6 (n := lo + hi + 1) (by omega) (by omega), Int.tdiv_eq_ediv_of_nonneg (by omega), A6 (n := (lo + hi + 1) / 2) (by omega) (by omega)]
  have hm := C6 (a := (lo + hi + 1) / 2) (b := (lo + hi + 1) / 2) (A := 2147483648) (B := 2147483648) (by omega) (by omega) (by omega) (by omega)
  have hs : Km (H8 n lo hi) = bif decide (lo < hi) then bif decide ((lo + hi + 1) / 2 * ((lo + hi + 1) / 2) ≤ n) then .leaf (.inl (H8 n ((lo + hi + 1) / 2) hi)) else .leaf (.inl (H8 n lo ((lo + hi + 1) / 2 - 1))) else .leaf (.inr (Q3 lo)) := by
   show M5 n lo hi = _
   unfold M5
   rw [em, A6 (n := (lo + hi + 1) / 2 * ((lo + hi + 1) / 2)) (by omega) (by omega), A6 (n := (lo + hi + 1) / 2 - 1) (by omega) (by omega)]
  cases k1 : decide (lo < hi) with
  | false =>
   have k1' := of_decide_eq_false k1
   have e1 : lo = rt n := by omega
   have : (Km (H8 n lo hi)).run = some (.inr (Q3 (rt n))) := by rw [hs, k1, ← e1]; rfl
   exact Ek this
  | true =>
   have k1' := of_decide_eq_true k1
   cases k2 : decide ((lo + hi + 1) / 2 * ((lo + hi + 1) / 2) ≤ n) with
   | true =>
    have k2' := of_decide_eq_true k2
    have hle : (lo + hi + 1) / 2 ≤ rt n := by
     rcases Int.lt_or_le (rt n) ((lo + hi + 1) / 2) with x | x
     ·have := Df (a := rt n + 1) (b := (lo + hi + 1) / 2) (by omega) (by omega)
      omega
     ·exact x
    rw [Lb (g' := H8 n ((lo + hi + 1) / 2) hi) (by rw [hs, k1, k2]; rfl)]
    exact ih _ _ (by omega) hle h5 h6 (by omega)
   | false =>
    have k2' := of_decide_eq_false k2
    have hle : rt n ≤ (lo + hi + 1) / 2 - 1 := by
     rcases Int.lt_or_le ((lo + hi + 1) / 2 - 1) (rt n) with x | x
     ·have := Df (a := (lo + hi + 1) / 2) (b := rt n) (by omega) (by omega)
      omega
     ·exact x
    rw [Lb (g' := H8 n lo ((lo + hi + 1) / 2 - 1)) (by rw [hs, k1, k2]; rfl)]
    exact ih _ _ h3 h4 hle (by omega) (by omega)
noncomputable def B22 : Ctx := Hk Tryz.prog [] [(154, Tryz.f154)] [((154, V.keyOf Adm), Ac M4 Oz (C3 [.exit 0] Km A2b))]
theorem Ag2 : CtxOk B22 := Bw Ab A9 (fns_cons is_bQ A2) (Bk rfl (by kernel_rfl) B21)
def Aa8 (n : Int) : Option (A1 Oz) := iter Km (Int.toNat (2147483648 - 0) + 1) (H8 n 0 2147483648)
def Aa9 (n : Int) : Tree (TCTs [cI]) := bif isE (.exit 0) (Aa8 n) then .leaf ((C0 (.exit 0) (Aa8 n)).1.1, ()) else .fail
theorem Ag3 {n : Int} (h0 : 0 ≤ n) (h1 : n ≤ 4611686018427387904) : (Aa9 n).sat (fun y => y = (rt n, ())) := by
 have hb := B1z h0 h1
 have hy : Aa8 n = some (Q3 (rt n)) := Av0 h0 h1 _ 0 2147483648 (by omega) hb.1 hb.2 (by omega) (Nat.le_refl _)
 unfold Aa9
 rw [hy]
 exact At rfl
theorem Av1 : A7 Tryz.prog 154 W3 := B2 Ag2 3 (fun x => Aa9 x.1) (fun x => by kernel_rfl) fun x hok _ => Ag3 (of_decide_eq_true hok).1 (of_decide_eq_true hok).2
namespace V
abbrev Ao6 : PureT := W3
theorem B23 : A7 Tryz.prog 154 Ao6 := Av1
end V
theorem M6 {n d w j : Int} (hd : 1 ≤ d) (hw : w = DW n d + j) : n - w * d = DR n d - j * d := by
 obtain ⟨a, _, _⟩ := Ts n d hd
 rw [hw]
 have : (DW n d + j) * d = DW n d * d + j * d := by grind
 omega
theorem Q4 {n d w : Int} (hok : F4 n d = true) (h1 : DW n d - 1 ≤ w) (h2 : w ≤ DW n d + 1) :
  IntKind.i64.wrap (2 * IntKind.i64.wrap (n - IntKind.i64.wrap (w * d))) = 2 * (n - w * d) ∧ IntKind.i64.wrap (n - IntKind.i64.wrap (w * d)) = n - w * d ∧ IntKind.i64.wrap (w + 1) = w + 1 ∧ IntKind.i64.wrap (w - 1) = w - 1 ∧ -9223372036854775807 ≤ w ∧ w ≤ 9223372036854775807 := by
 unfold F4 at hok
 obtain ⟨k1, k2, k3, k4⟩ := of_decide_eq_true hok
 obtain ⟨a1, a2, a3⟩ := Ts n d k3
 have hb := A5q n d 1152921504606846976 k3 (by omega) (by omega) (by omega)
 have hr : n - w * d = DR n d - (w - DW n d) * d := M6 k3 (by omega)
 have hj := C6 (a := w - DW n d) (b := d) (A := 1) (B := d) (by omega) (by omega) (by omega) (by omega)
 rw [A6 (n := w * d) (by omega) (by omega), A6 (n := n - w * d) (by omega) (by omega), A6 (n := 2 * (n - w * d)) (by omega) (by omega), A6 (n := w + 1) (by omega) (by omega), A6 (n := w - 1) (by omega) (by omega)]
 exact ⟨rfl, rfl, rfl, rfl, by omega, by omega⟩
noncomputable def Ao7 : Code := (A8 (bodyOf Tryz.f156)).getD 0 .skip
noncomputable def Ao8 : Code := (A8 (bodyOf Tryz.f156)).getD 1 .skip
abbrev Ba0 : List BK := [(0, 149, [.d cI, .d cI])]
def L_p : Lay := { keys := [0, 1, 4, 5], ks := [.d cI, .d cI, .p 0 0 0 0, .d cI], bs := Ba0, n := 37, nx := 1000, marks := [] }
def E_p : XE → Lay := fun _ => L_p
def Kn (z : SKTs [.d cI, .d cI]) (n d w : Int) : L_p.T := ((n, d, (), w, ()), (z, ()))
def Yh (i : Nat) (z : SKTs [.d cI, .d cI]) (n d w : Int) : A1 E_p := ⟨.exit i, ((n, d, (), w, ()), (z, ()))⟩
def Lo (n d w : Int) : Int := IntKind.i64.wrap (2 * IntKind.i64.wrap (n - IntKind.i64.wrap (w * d)))
def Q5 (g : L_p.T) : Tree (L_p.T ⊕ A1 E_p) := bif decide (Lo g.1.1 g.1.2.1 g.1.2.2.2.1 ≥ g.1.2.1) then .leaf (.inl (Kn g.2.1 g.1.1 g.1.2.1 (IntKind.i64.wrap (g.1.2.2.2.1 + 1)))) else .leaf (.inr (Yh 0 g.2.1 g.1.1 g.1.2.1 g.1.2.2.2.1))
def Q6 (g : L_p.T) : Tree (L_p.T ⊕ A1 E_p) := bif decide (Lo g.1.1 g.1.2.1 g.1.2.2.2.1 < IntKind.i64.wrap (0 - g.1.2.1)) then .leaf (.inl (Kn g.2.1 g.1.1 g.1.2.1 (IntKind.i64.wrap (g.1.2.2.2.1 - 1)))) else .leaf (.inr (Yh 2 g.2.1 g.1.1 g.1.2.1 g.1.2.2.2.1))
def A6f (_ : L_p.T) : Nat := 3
theorem Ba1 : Aj Tryz.prog 156 Ao7 (Ac L_p E_p (C3 [.exit 0] Q5 A6f)) := Ay (Ad Ab A9 A2) 1 _ L_p E_p (fun _ => Nat.le_refl _) [.exit 0] Q5 A6f (fun g => by kernel_rfl)
theorem Ba2 : Aj Tryz.prog 156 Ao8 (Ac L_p E_p (C3 [.exit 2] Q6 A6f)) := Ay (Ad Ab A9 A2) 1 _ L_p E_p (fun _ => Nat.le_refl _) [.exit 2] Q6 A6f (fun g => by kernel_rfl)
theorem B6p {z : SKTs [.d cI, .d cI]} {n d : Int} (hok : F4 n d = true) : ∀ (k : Nat) (w : Int), DW n d - 1 ≤ w → w ≤ DW n d + 1 → (DW n d + 1 - w).toNat ≤ k → iter Q5 (k + 1) (Kn z n d w) = some (Yh 0 z n d (max w (DW n d))) := by
 have hok' := hok
 unfold F4 at hok'
 obtain ⟨k1, k2, k3, k4⟩ := of_decide_eq_true hok'
 obtain ⟨a1, a2, a3⟩ := Ts n d k3
 intro k
 induction k with
 | zero =>
  intro w h1 h2 hk
  obtain ⟨w1, w2, w3, w4, w5⟩ := Q4 hok h1 h2
  have hr : n - w * d = DR n d - (w - DW n d) * d := M6 k3 (by omega)
  have hj : w - DW n d = 1 := by omega
  have hc : decide (Lo n d w ≥ d) = false := by
   unfold Lo; rw [w1, hr, hj]; exact decide_eq_false (by omega)
  have : (Q5 (Kn z n d w)).run = some (.inr (Yh 0 z n d w)) := by
   show (bif decide (Lo n d w ≥ d) then _ else _ : Tree (L_p.T ⊕ A1 E_p)).run = _
   rw [hc]; rfl
  rw [Ek this, show max w (DW n d) = w by omega]
 | succ k ih =>
  intro w h1 h2 hk
  obtain ⟨w1, w2, w3, w4, w5⟩ := Q4 hok h1 h2
  have hr : n - w * d = DR n d - (w - DW n d) * d := M6 k3 (by omega)
  cases q : decide (Lo n d w ≥ d) with
  | true =>
   have q' := of_decide_eq_true q
   unfold Lo at q'
   rw [w1, hr] at q'
   have hlt : w = DW n d - 1 := by
    rcases (show w = DW n d - 1 ∨ w = DW n d ∨ w = DW n d + 1 by omega) with x | x | x
    ·exact x
    ·rw [x, Int.sub_self] at q'; omega
    ·rw [show w - DW n d = 1 by omega] at q'; omega
   have : (Q5 (Kn z n d w)).run = some (.inl (Kn z n d (w + 1))) := by
    show (bif decide (Lo n d w ≥ d) then .leaf (.inl (Kn z n d (IntKind.i64.wrap (w + 1)))) else _ : Tree (L_p.T ⊕ A1 E_p)).run = _
    rw [q, w3]; rfl
   rw [Lb this, ih (w + 1) (by omega) (by omega) (by omega), show max (w + 1) (DW n d) = max w (DW n d) by omega]
  | false =>
   have q' := of_decide_eq_false q
   unfold Lo at q'
   rw [w1, hr] at q'
   have hge : DW n d ≤ w := by
    rcases (show w = DW n d - 1 ∨ DW n d ≤ w by omega) with x | x
    ·rw [show w - DW n d = -1 by omega] at q'; omega
    ·exact x
   have : (Q5 (Kn z n d w)).run = some (.inr (Yh 0 z n d w)) := by
    show (bif decide (Lo n d w ≥ d) then _ else _ : Tree (L_p.T ⊕ A1 E_p)).run = _
    rw [q]; rfl
   rw [Ek this, show max w (DW n d) = w by omega]
theorem B6q {z : SKTs [.d cI, .d cI]} {n d : Int} (hok : F4 n d = true) : ∀ (k : Nat) (w : Int), DW n d ≤ w → w ≤ DW n d + 1 → (w - DW n d).toNat ≤ k → iter Q6 (k + 1) (Kn z n d w) = some (Yh 2 z n d (DW n d)) := by
 have hok' := hok
 unfold F4 at hok'
 obtain ⟨k1, k2, k3, k4⟩ := of_decide_eq_true hok'
 obtain ⟨a1, a2, a3⟩ := Ts n d k3
 have hw0 : IntKind.i64.wrap (0 - d) = 0 - d := A6 (by omega) (by omega)
 intro k
 induction k with
 | zero =>
  intro w h1 h2 hk
  obtain ⟨w1, w2, w3, w4, w5⟩ := Q4 hok (by omega) h2
  have e : w = DW n d := by omega
  have hr : n - w * d = DR n d - (w - DW n d) * d := M6 k3 (by omega)
  have hc : decide (Lo n d w < IntKind.i64.wrap (0 - d)) = false := by
   unfold Lo; rw [w1, hr, hw0, show w - DW n d = 0 by omega]; exact decide_eq_false (by omega)
  have : (Q6 (Kn z n d w)).run = some (.inr (Yh 2 z n d w)) := by
   show (bif decide (Lo n d w < IntKind.i64.wrap (0 - d)) then _ else _ : Tree (L_p.T ⊕ A1 E_p)).run = _
   rw [hc]; rfl
  rw [Ek this, e]
 | succ k ih =>
  intro w h1 h2 hk
  obtain ⟨w1, w2, w3, w4, w5⟩ := Q4 hok (by omega) h2
  have hr : n - w * d = DR n d - (w - DW n d) * d := M6 k3 (by omega)
  cases q : decide (Lo n d w < IntKind.i64.wrap (0 - d)) with
  | true =>
   have q' := of_decide_eq_true q
   unfold Lo at q'
   rw [w1, hr, hw0] at q'
   have hlt : w = DW n d + 1 := by
    rcases (show w = DW n d ∨ w = DW n d + 1 by omega) with x | x
    ·rw [x, Int.sub_self] at q'; omega
    ·exact x
   have : (Q6 (Kn z n d w)).run = some (.inl (Kn z n d (w - 1))) := by
    show (bif decide (Lo n d w < IntKind.i64.wrap (0 - d)) then .leaf (.inl (Kn z n d (IntKind.i64.wrap (w - 1)))) else _ : Tree (L_p.T ⊕ A1 E_p)).run = _
    rw [q, w4]; rfl
   rw [Lb this]
   exact ih (w - 1) (by omega) (by omega) (by omega)
  | false =>
   have q' := of_decide_eq_false q
   unfold Lo at q'
   rw [w1, hr, hw0] at q'
   have hge : w = DW n d := by
    rcases (show w = DW n d ∨ w = DW n d + 1 by omega) with x | x
    ·exact x
    ·rw [show w - DW n d = 1 by omega] at q'; omega
   have : (Q6 (Kn z n d w)).run = some (.inr (Yh 2 z n d w)) := by
    show (bif decide (Lo n d w < IntKind.i64.wrap (0 - d)) then _ else _ : Tree (L_p.T ⊕ A1 E_p)).run = _
    rw [q]; rfl
   rw [Ek this, hge]
noncomputable def Ao9 : Ctx := Hk Tryz.prog [] [(156, Tryz.f156)] [((156, V.keyOf Ao7), Ac L_p E_p (C3 [.exit 0] Q5 A6f)), ((156, V.keyOf Ao8), Ac L_p E_p (C3 [.exit 2] Q6 A6f))]
theorem A6g : CtxOk Ao9 := Bw Ab A9 (fns_cons is_bP A2) (by
 intro p hp d hd g hg
 rw [List.mem_singleton] at hp
 subst hp
 have hl : A8 (bodyOf Tryz.f156) = [Ao7, Ao8] := by kernel_rfl
 simp only at hd hg
 rw [hl] at hd
 simp only [List.mem_cons, List.not_mem_nil, or_false] at hd
 rcases hd with rfl | rfl
 ·have h2 : some (Ac L_p E_p (C3 [.exit 0] Q5 A6f)) = some g := by rw [← hg]; kernel_rfl
  cases h2
  exact Ba1
 ·have h2 : some (Ac L_p E_p (C3 [.exit 2] Q6 A6f)) = some g := by rw [← hg]; kernel_rfl
  cases h2
  exact Ba2)
def Aoa (n d : Int) : Option (A1 E_p) := iter Q5 3 (Kn (0, 0, ()) n d (IntKind.i64.wrap (n.tdiv d)))
def Aob (v : L_p.T) : Option (A1 E_p) := iter Q6 3 v
def b_p (v : L_p.T) : Tree (TCTs [.st [cI, cI]]) := .leaf ((v.1.2.2.2.1, IntKind.i64.wrap (v.1.1 - IntKind.i64.wrap (v.1.2.2.2.1 * v.1.2.1)), ()), ())
def B24 (n d : Int) : Tree (TCTs [.st [cI, cI]]) := bif d != 0 then bif isE (.exit 0) (Aoa n d) then bif isE (.exit 2) (Aob (C0 (.exit 0) (Aoa n d))) then b_p (C0 (.exit 2) (Aob (C0 (.exit 0) (Aoa n d)))) else .fail else .fail else .fail
theorem Av2 {n d : Int} (hok : F4 n d = true) : (B24 n d).sat (fun y => y = ((DW n d, DR n d, ()), ())) := by
 have hok' := hok
 unfold F4 at hok'
 obtain ⟨k1, k2, k3, k4⟩ := of_decide_eq_true hok'
 have b := Axo n d 1152921504606846976 k3 (by omega) (by omega)
 have hd : (d != 0) = true := by simp; omega
 have near : DW n d - 1 ≤ n.tdiv d ∧ n.tdiv d ≤ DW n d + 1 := by
  rcases Int.lt_or_le (2 * n.tmod d) d with x | x
  ·rcases Int.lt_or_le (2 * n.tmod d) (-d) with y | y
   ·have := (Axq n d k3 y).1; omega
   ·have := (An2 n d k3 x y).1; omega
  ·have := (Axp n d k3 x).1; omega
 have hy1 : Aoa n d = some (Yh 0 (0, 0, ()) n d (max (n.tdiv d) (DW n d))) := by
  unfold Aoa
  rw [A6 (n := n.tdiv d) (by omega) (by omega)]
  exact B6p hok 2 _ near.1 near.2 (by omega)
 have hy2 : Aob (Kn (0, 0, ()) n d (max (n.tdiv d) (DW n d))) = some (Yh 2 (0, 0, ()) n d (DW n d)) := B6q hok 2 _ (by omega) (by omega) (by omega)
 unfold B24
 rw [hd, hy1]
 show (bif isE (.exit 2) (Aob (Kn (0, 0, ()) n d (max (n.tdiv d) (DW n d)))) then b_p (C0 (.exit 2) (Aob (Kn (0, 0, ()) n d (max (n.tdiv d) (DW n d))))) else .fail : Tree (TCTs [.st [cI, cI]])).sat _
 rw [hy2]
 show (b_p (Kn (0, 0, ()) n d (DW n d))).sat _
 refine At ?_
 show ((DW n d, IntKind.i64.wrap (n - IntKind.i64.wrap (DW n d * d)), ()), ()) = _
 rw [(Q4 hok (w := DW n d) (by omega) (by omega)).2.1]
 rfl
namespace V
abbrev A6h : PureT := B4 [cI, cI] [.st [cI, cI]] (fun x => F4 x.1 x.2.1) (fun x => ((DW x.1 x.2.1, DR x.1 x.2.1, ()), ()))
theorem Aoc : A7 Tryz.prog 156 A6h := B2 A6g 3 (fun x => B24 x.1 x.2.1) (fun x => by kernel_rfl) fun _ hok _ => Av2 hok
theorem is_bR : FnIs Tryz.prog (164, Tryz.f164) := ⟨Tryz.func164, by kernel_rfl, by kernel_rfl⟩
theorem Ti : FnIs Tryz.prog (164, Tryz.f164) := is_bR
def B25 : List (Nat × PureT) := [(116, A2a), (117, A29)]
theorem B26 : Bu Tryz.prog B25 := A0 is_bN.plain Adl (A0 is_bM.plain A6e A9)
def Aod (px py r : Int) : Tree (TCTs [cI]) := bif !fpt px py then .leaf (2, ()) else bif !!Aw r 1 65536 then .leaf (2, ()) else .leaf (0, ())
theorem Aoe {px py r : Int} : (Aod px py r).sat (fun y => y = (Ro px py r, ())) := by
 unfold Aod Ro Iv
 cases fpt px py <;> cases Aw r 1 65536 <;> exact At rfl
theorem A2c : A7 Tryz.prog 164 Jb := B2 (Ad Ab B26 (fns_cons is_bR A2)) 3 (fun x => Aod x.1.1.1 x.1.1.2.1 x.1.2.1) (fun x => by kernel_rfl) fun _ _ _ => Aoe
end V
end Go.Proofs.YtkiaifmbbnnliaaGreat
