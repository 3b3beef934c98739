import Derived.Test.YtkiaifmbbnnliaaGreatZb
import Derived.Test.YtkiaifmbbnnliaaGreatMA
import Derived.Test.YtkiaifmbbnnliaaGreatRows
namespace Go.Proofs.YtkiaifmbbnnliaaGreat
open Go.RowKit V
theorem is_bR : FnIs Tryz.prog (109, Tryz.f109) := ⟨Tryz.func109, by kernel_rfl, by kernel_rfl⟩
theorem is_bS : FnIs Tryz.prog (112, Tryz.f112) := ⟨Tryz.func112, by kernel_rfl, by kernel_rfl⟩
theorem is_bT : FnIs Tryz.prog (206, Tryz.f206) := ⟨Tryz.func206, by kernel_rfl, by kernel_rfl⟩
theorem is_bU : FnIs Tryz.prog (185, Tryz.f185) := ⟨Tryz.func185, by kernel_rfl, by kernel_rfl⟩
theorem is_bV : FnIs Tryz.prog (110, Tryz.f110) := ⟨Tryz.func110, by kernel_rfl, by kernel_rfl⟩
theorem is_bW : FnIs Tryz.prog (150, Tryz.f150) := ⟨Tryz.func150, by kernel_rfl, by kernel_rfl⟩
theorem is_bX : FnIs Tryz.prog (102, Tryz.f102) := ⟨Tryz.func102, by kernel_rfl, by kernel_rfl⟩
theorem is_bY : FnIs Tryz.prog (188, Tryz.f188) := ⟨Tryz.func188, by kernel_rfl, by kernel_rfl⟩
theorem is_bZ : FnIs Tryz.prog (111, Tryz.f111) := ⟨Tryz.func111, by kernel_rfl, by kernel_rfl⟩
theorem is_b0 : FnIs Tryz.prog (201, Tryz.f201) := ⟨Tryz.func201, by kernel_rfl, by kernel_rfl⟩
theorem is_b1 : FnIs Tryz.prog (56, Tryz.f56) := ⟨Tryz.func56, by kernel_rfl, by kernel_rfl⟩
theorem is_b2 : FnIs Tryz.prog (117, Tryz.f117) := ⟨Tryz.func117, by kernel_rfl, by kernel_rfl⟩
theorem is_b3 : FnIs Tryz.prog (116, Tryz.f116) := ⟨Tryz.func116, by kernel_rfl, by kernel_rfl⟩
theorem is_b4 : FnIs Tryz.prog (155, Tryz.f155) := ⟨Tryz.func155, by kernel_rfl, by kernel_rfl⟩
theorem is_b5 : FnIs Tryz.prog (156, Tryz.f156) := ⟨Tryz.func156, by kernel_rfl, by kernel_rfl⟩
theorem is_b6 : FnIs Tryz.prog (154, Tryz.f154) := ⟨Tryz.func154, by kernel_rfl, by kernel_rfl⟩
theorem is_b7 : FnIs Tryz.prog (118, Tryz.f118) := ⟨Tryz.func118, by kernel_rfl, by kernel_rfl⟩
theorem is_b8 : FnIs Tryz.prog (62, Tryz.f62) := ⟨Tryz.func62, by kernel_rfl, by kernel_rfl⟩
theorem Wv : FnIs Tryz.prog (50, Tryz.f50) := ⟨Tryz.func50, by kernel_rfl, by kernel_rfl⟩
namespace V
abbrev cPt : TC := .st [.i .i64, .i .i64]
abbrev Al : TC := .st [cPt, .i .i64]
end V
abbrev K7 : PureT := B9 [cI, cI, cI] [.b] (fun _ => true) (fun x => (Az x.1 x.2.1 x.2.2.1, ()))
theorem Ajd {a b c : Int} : (bif decide (a < b) then .leaf (true, ()) else .leaf (decide (a > c), ()) : Tree (TCTs [.b])).sat (fun y => y = (Az a b c, ())) := by
 refine B2 (fun h1 => ?_) (fun h1 => ?_) <;> (refine Au ?_; unfold Az; rw [h1]; rfl)
theorem Ac8 : A7 Tryz.prog 109 K7 := B6 (Ad Ab Aa (fns_cons is_bR A2)) 2 (fun x => bif decide (x.1 < x.2.1) then .leaf (true, ()) else .leaf (decide (x.1 > x.2.2.1), ())) (fun x => by kernel_rfl) fun _ _ _ => Ajd
theorem Ber : By Tryz.prog [(109, K7)] := A0 is_bR.plain Ac8 Aa
def Ww (n d : Int) : Tree (TCTs [.st [cI, cI]]) :=
 bif d != 0 then bif d != 0 then
      bif decide (IntKind.i64.wrap (2 * n.tmod d) ≥ d) then .leaf (((IntKind.i64.wrap (IntKind.i64.wrap (n.tdiv d) + 1)), (IntKind.i64.wrap (n.tmod d - d)), ()), ())
      else bif decide (IntKind.i64.wrap (2 * n.tmod d) < IntKind.i64.wrap (0 - d)) then .leaf (((IntKind.i64.wrap (IntKind.i64.wrap (n.tdiv d) - 1)), (IntKind.i64.wrap (n.tmod d + d)), ()), ())
      else .leaf (((IntKind.i64.wrap (n.tdiv d)), (n.tmod d), ()), ())
     else .fail else .fail
theorem A7r {n d : Int} (hok : Et n d = true) : (Ww n d).sat (fun y => y = ((DW n d, DR n d, ()), ())) := by
 unfold Ww
 unfold Et at hok
 obtain ⟨h1, h2, h3, h4⟩ := of_decide_eq_true hok
 have hd : (d != 0) = true := by simp; omega
 have ⟨k1, k2⟩ := Agl n d h3
 have ⟨k3, k4⟩ := B3l n d 1152921504606846976 h3 h1 h2
 rw [A5 (n := 2 * n.tmod d) (by omega) (by omega), A5 (n := n.tdiv d) (by omega) (by omega), A5 (n := n.tdiv d + 1) (by omega) (by omega), A5 (n := n.tdiv d - 1) (by omega) (by omega),
  A5 (n := n.tmod d - d) (by omega) (by omega), A5 (n := n.tmod d + d) (by omega) (by omega), A5 (n := 0 - d) (by omega) (by omega), hd]
 refine B2 (fun _ => B2 (fun _ => B2 (fun h5 => ?_) (fun h5 => B2 (fun h6 => ?_) (fun h6 => ?_))) (fun h => by simp at h)) (fun h => by simp at h)
 ·obtain ⟨e1, e2⟩ := B3m n d h3 (of_decide_eq_true h5)
  refine Au ?_
  rw [e1, e2]
 ·obtain ⟨e1, e2⟩ := B3n n d h3 (by have := of_decide_eq_true h6; omega)
  refine Au ?_
  rw [e1, e2]
 ·obtain ⟨e1, e2⟩ := As4 n d h3 (by have := of_decide_eq_false h5; omega) (by have := of_decide_eq_false h6; omega)
  refine Au ?_
  rw [e1, e2]
abbrev Wx : PureT := B9 [cI, cI] [.st [cI, cI]] (fun x => Et x.1 x.2.1) (fun x => ((DW x.1 x.2.1, DR x.1 x.2.1, ()), ()))
theorem Aje : A7 Tryz.prog 112 Wx := B6 (Ad Ab Aa (fns_cons is_bS A2)) 2 (fun x => Ww x.1 x.2.1) (fun x => by kernel_rfl) fun x hok hw => A7r hok
theorem Bes : By Tryz.prog [(112, Wx), (109, K7)] := A0 is_bS.plain Aje Ber
namespace V
def B8j (n d : Int) : Tree (TCTs [.st [cI, cI], cI]) :=
 bif Az n (-1152921504606846976) 1152921504606846976 then .leaf ((0, 0, ()), 3, ())
     else bif Az d 1 1152921504606846976 then .leaf ((0, 0, ()), 3, ())
     else bif Et n d then
      bif (DW n d == 0) && ((DR n d == 0) && true) then .leaf ((0, 0, ()), 0, ())
      else .leaf (((DW n d), (DR n d), ()), 0, ())
     else .fail
theorem Azr {n d : Int} : (B8j n d).sat (fun y => y = ((DvW n d, DvR n d, ()), DvE n d, ())) := by
 unfold B8j
 refine B2 (fun h1 => ?_) (fun h1 => B2 (fun h2 => ?_) (fun h2 => B2 (fun h3 => ?_) (fun h3 => ?_)))
 ·obtain ⟨e1, e2, e3⟩ := Azd n d h1
  refine Au ?_
  rw [e1, e2, e3]
 ·obtain ⟨e1, e2, e3⟩ := Aze n d h2
  refine Au ?_
  rw [e1, e2, e3]
 ·have ⟨k1, k2⟩ := E8 h1
  have ⟨k3, k4⟩ := E8 h2
  obtain ⟨e1, e2, e3⟩ := As5 n d k1 k2 k3 k4
  refine B2 (fun h4 => ?_) (fun h4 => ?_)
  ·simp at h4
   refine Au ?_
   rw [e1, e2, e3, h4.1, h4.2]
  ·refine Au ?_
   rw [e1, e2, e3]
 ·rw [Wp, h1, h2] at h3; simp at h3
abbrev A7s : PureT := B9 [cI, cI] [.st [cI, cI], cI] (fun x => true) (fun x => ((DvW x.1 x.2.1, DvR x.1 x.2.1, ()), DvE x.1 x.2.1, ()))
theorem Asl : A7 Tryz.prog 206 A7s := B6 (Ad Ab Bes (fns_cons is_bT A2)) 2 (fun x => B8j x.1 x.2.1) (fun x => by kernel_rfl) fun x hok hw => Azr
end V
def tbB : ByteArray := ⟨((List.range 256).map fun i => UInt8.ofNat (if i = 0 then 0 else Nat.log2 i + 1)).toArray⟩
def Azs (i : Nat) : Int := ((tbB.data.toList.getD i 0).toNat : Int)
theorem Azt : ∀ i, i < 256 → (tbB.data.toList.getD i 0).toNat = bl i := by decide +kernel
theorem Asm (i : Nat) (h : i < 256) : Azs i = bl i := by unfold Azs; rw [Azt i h]
attribute [irreducible] Azs tbB
def Asn (n k : Int) : Int := n.fdiv (2 ^ min (Int.toNat k) IntKind.u64.bits)
def Azu (m s : Int) : Tree (TCTs [cI]) := bif decide (0 ≤ IntKind.u8.wrap m ∧ IntKind.u8.wrap m < 256) then .leaf (IntKind.i64.wrap (s + IntKind.i64.wrap (Azs (IntKind.u8.wrap m).toNat)), ()) else .fail
def Azv (m s : Int) : Tree (TCTs [cI]) := bif decide (m ≥ 256) then Azu (Asn m 8) (IntKind.i64.wrap (s + 8)) else Azu m s
def A3a (m s : Int) : Tree (TCTs [cI]) := bif decide (m ≥ 65536) then Azv (Asn m 16) (IntKind.i64.wrap (s + 16)) else Azv m s
def B8k (n : Int) : Tree (TCTs [cI]) := bif decide (n ≥ 4294967296) then A3a (Asn n 32) 32 else A3a n 0
section
attribute [local irreducible] Tree.sat
theorem Wy (n k : Nat) (hk : k ≤ 64) : Asn (n : Int) (k : Int) = ((n / 2 ^ k : Nat) : Int) := by
 unfold Asn
 have : min (Int.toNat (k : Int)) IntKind.u64.bits = k := by simp [IntKind.bits]; omega
 rw [this, Int.fdiv_eq_ediv_of_nonneg _ (by exact Int.le_of_lt (Int.pow_pos (by decide)))]
 simp
theorem Ajf (m : Nat) (h : m < 256) : IntKind.u8.wrap (m : Int) = m := by
 unfold IntKind.wrap; simp [IntKind.bits, IntKind.signed]; omega
theorem Agp {R : TCTs [cI] → Prop} (m s : Nat) (hm : m < 256) (hs : s ≤ 56) (h : R (((s + bl m : Nat) : Int), ())) : (Azu (m : Int) (s : Int)).sat R := by
 unfold Azu
 rw [Ajf m hm]
 have hb : bl m ≤ 8 := Wq m 8 (by omega)
 refine B2 (fun _ => ?_) (fun h => ?_)
 ·rw [Int.toNat_natCast, Asm m hm, A5 (n := (bl m : Int)) (by omega) (by omega), A5 (n := (s : Int) + (bl m : Int)) (by omega) (by omega)]
  refine Au ?_
  rw [← Int.natCast_add]; exact h
 ·have := of_decide_eq_false h; omega
theorem Agq {R : TCTs [cI] → Prop} (m s : Nat) (hm : m < 65536) (hs : s ≤ 48) (h : R (((s + bl m : Nat) : Int), ())) : (Azv (m : Int) (s : Int)).sat R := by
 unfold Azv
 refine B2 (fun h1 => ?_) (fun h1 => ?_)
 ·have h2 := of_decide_eq_true h1
  rw [A5 (n := (s : Int) + 8) (by omega) (by omega)]
  have e1 := Wy m 8 (by omega)
  simp only [Int.cast_ofNat_Int] at e1
  rw [e1]
  have e2 : (s : Int) + 8 = ((s + 8 : Nat) : Int) := by simp
  rw [e2]
  refine Agp (m / 2 ^ 8) (s + 8) (by omega) (by omega) ?_
  have := Abx m 8 (by omega)
  rwa [show s + 8 + bl (m / 2 ^ 8) = s + bl m by omega]
 ·have h2 := of_decide_eq_false h1
  exact Agp m s (by omega) (by omega) h
theorem Agr {R : TCTs [cI] → Prop} (m s : Nat) (hm : m < 4294967296) (hs : s ≤ 32) (h : R (((s + bl m : Nat) : Int), ())) : (A3a (m : Int) (s : Int)).sat R := by
 unfold A3a
 refine B2 (fun h1 => ?_) (fun h1 => ?_)
 ·have h2 := of_decide_eq_true h1
  rw [A5 (n := (s : Int) + 16) (by omega) (by omega)]
  have e1 := Wy m 16 (by omega)
  simp only [Int.cast_ofNat_Int] at e1
  rw [e1]
  have e2 : (s : Int) + 16 = ((s + 16 : Nat) : Int) := by simp
  rw [e2]
  refine Agq (m / 2 ^ 16) (s + 16) (by omega) (by omega) ?_
  have := Abx m 16 (by omega)
  rwa [show s + 16 + bl (m / 2 ^ 16) = s + bl m by omega]
 ·have h2 := of_decide_eq_false h1
  exact Agq m s (by omega) (by omega) h
theorem Azw {R : TCTs [cI] → Prop} (n : Int) (h0 : 0 ≤ n) (h1 : n ≤ 18446744073709551615) (h : R ((bl n.toNat : Int), ())) : (B8k n).sat R := by
 obtain ⟨m, rfl⟩ := Int.eq_ofNat_of_zero_le h0
 rw [Int.toNat_natCast] at h
 unfold B8k
 refine B2 (fun h1 => ?_) (fun h1 => ?_)
 ·have h2 := of_decide_eq_true h1
  have e1 := Wy m 32 (by omega)
  simp only [Int.cast_ofNat_Int] at e1
  rw [e1]
  refine Agr (m / 2 ^ 32) 32 (by omega) (by omega) ?_
  have := Abx m 32 (by omega)
  rwa [show 32 + bl (m / 2 ^ 32) = bl m by omega]
 ·have h2 := of_decide_eq_false h1
  exact Agr m 0 (by omega) (by omega) (by rwa [Nat.zero_add])
end
abbrev A3b : PureT := B9 [.i .u64] [cI] (fun _ => true) (fun x => ((bl x.1.toNat : Int), ()))
theorem Aso : A7 Tryz.prog 150 A3b := B6 (Ad Ab Aa (fns_cons is_bW A2)) 2 (fun x => B8k x.1) (fun x => by kernel_rfl) fun x _ hw => Azw x.1 hw.1.1 hw.1.2 rfl
theorem Ajg : By Tryz.prog [(150, A3b)] := A0 is_bW.plain Aso Aa
noncomputable def Ags : Code := (A8 (bodyOf Tryz.f110)).getD 0 .skip
def M8 : Lay := { keys := [0, 3], ks := [.d cI, .d cI], bs := [], n := 25, nx := 1000, marks := [] }
def Azx : Lay := { keys := [2], ks := [.d cI], bs := [], n := 25, nx := 1000, marks := [] }
def P3 : XE → Lay := fun _ => Azx
def Nf (n x : Int) : M8.T := ((n, x, ()), ())
def A3c (r : Int) : A1 P3 := ⟨.ret, ((r, ()), ())⟩
def Ua (n x : Int) : Int := IntKind.i64.wrap ((IntKind.i64.wrap (x + IntKind.i64.wrap (n.tdiv x))).tdiv 2)
def Wz (n x : Int) : Tree (M8.T ⊕ A1 P3) := bif x != 0 then bif decide (Ua n x ≥ x) then .leaf (.inr (A3c x)) else .leaf (.inl (Nf n (Ua n x))) else .fail
def Ng (g : M8.T) : Tree (M8.T ⊕ A1 P3) := Wz g.1.1 g.1.2.1
def A3d (g : M8.T) : Nat := Int.toNat g.1.2.1 + 1
theorem B8l : Ae Tryz.prog 110 Ags (A9 M8 P3 (Bu [.ret] Ng A3d)) := Aw (Ad Ab Aa A2) 1 _ M8 P3 (fun _ => Nat.le_refl _) [.ret] Ng A3d (fun g => by kernel_rfl)
theorem Agt {n : Int} (h1 : 2 ≤ n) (h2 : n ≤ 4611686018427387904) : ∀ (k : Nat) (x : Int), 1 ≤ x → x ≤ 4294967296 → rt n ≤ x → x.toNat ≤ k → iter Ng (k + 1) (Nf n x) = some (A3c (rt n))
 | 0, x, h3, _, _, hk => by omega
 | k + 1, x, h3, h4, h5, hk => by
  have hq := Int.ediv_nonneg (show 0 ≤ n by omega) (show 0 ≤ x by omega)
  have hq2 := Int.ediv_le_self x (show 0 ≤ n by omega)
  have e1 : Ua n x = (x + n / x) / 2 := by
   unfold Ua
   rw [Int.tdiv_eq_ediv_of_nonneg (show 0 ≤ n by omega), A5 (n := n / x) (by omega) (by omega), A5 (n := x + n / x) (by omega) (by omega), Int.tdiv_eq_ediv_of_nonneg (by omega), A5 (by omega) (by omega)]
  have hge := Aj8 n x (by omega) h3
  have hx0 : (x != 0) = true := by simp; omega
  have hs : Ng (Nf n x) = bif decide ((x + n / x) / 2 ≥ x) then .leaf (.inr (A3c x)) else .leaf (.inl (Nf n ((x + n / x) / 2))) := by
   show Wz n x = _
   unfold Wz
   rw [hx0, e1]
   rfl
  cases hd : decide ((x + n / x) / 2 ≥ x) with
  | true =>
   have h7 := of_decide_eq_true hd
   have hx := Aby n x (by omega) h3 h5 (by omega)
   rw [← hx]
   exact Dh (by rw [hs, hd]; rfl)
  | false =>
   have h7 := of_decide_eq_false hd
   have hr := (Gk n (by omega)).1
   have hpos : 1 ≤ (x + n / x) / 2 := by
    have : 1 ≤ rt n := by
     have hc := (Gk n (by omega)).2.2
     rcases Int.lt_or_le (rt n) 1 with k | k
     ·have : rt n = 0 := by omega
      rw [this] at hc; omega
     ·exact k
    omega
   rw [Jq (g' := Nf n ((x + n / x) / 2)) (by rw [hs, hd]; rfl)]
   exact Agt h1 h2 k _ hpos (by omega) hge (by omega)
theorem Asp (n : Int) (h0 : 0 ≤ n) (h : n < 2) : rt n = n := A0z n n h0 (by rcases (show n = 0 ∨ n = 1 by omega) with rfl | rfl <;> decide) (by rcases (show n = 0 ∨ n = 1 by omega) with rfl | rfl <;> decide)
def Ajh (n : Int) : Bool := decide (0 ≤ n ∧ n ≤ 4611686018427387904)
def RtV (n : Int) : Int := if Ajh n then rt n else 0
def RtE (n : Int) : Int := if Ajh n then 0 else 3
abbrev Ru : PureT := B9 [cI] [cI] (fun x => decide (0 ≤ x.1 ∧ x.1 ≤ 4611686018427387904)) (fun x => (rt x.1, ()))
noncomputable def B8m : Ctx := Gu Tryz.prog [(150, A3b)] [(110, Tryz.f110)] [((110, V.keyOf Ags), A9 M8 P3 (Bu [.ret] Ng A3d))]
theorem Aji : CtxOk B8m := Bx Ab Ajg (fns_cons is_bV A2) (Bg rfl (by kernel_rfl) B8l)
def A3e (n : Int) : Int := IntKind.i64.wrap (1 * 2 ^ min (IntKind.i64.wrap ((IntKind.i64.wrap ((bl (IntKind.u64.wrap n).toNat : Int) + 1)).tdiv 2)).toNat IntKind.i64.bits)
def Ac9 (n : Int) : Option (A1 P3) := iter Ng (Int.toNat (A3e n) + 1) (Nf n (A3e n))
def Aca (n : Int) : Tree (TCTs [cI]) := bif decide (n < 2) then .leaf (n, ()) else bif decide (0 ≤ IntKind.i64.wrap ((IntKind.i64.wrap ((bl (IntKind.u64.wrap n).toNat : Int) + 1)).tdiv 2)) then bif isE .ret (Ac9 n) then .leaf ((B7 .ret (Ac9 n)).1.1, ()) else .fail else .fail
theorem Ajj {n : Int} (h0 : 0 ≤ n) (h1 : n ≤ 4611686018427387904) : (Aca n).sat (fun y => y = (rt n, ())) := by
 unfold Aca Ac9 A3e
 have hwr : IntKind.u64.wrap n = n := by unfold IntKind.wrap; simp [IntKind.bits, IntKind.signed]; omega
 have hb : bl n.toNat ≤ 63 := Wq _ 63 (by omega)
 rw [hwr, A5 (n := (bl n.toNat : Int) + 1) (by omega) (by omega), Int.tdiv_eq_ediv_of_nonneg (by omega), A5 (n := ((bl n.toNat : Int) + 1) / 2) (by omega) (by omega)]
 refine B2 (fun h2 => ?_) (fun h2 => B2 (fun h3 => ?_) (fun h3 => ?_))
 ·have := of_decide_eq_true h2
  refine Au ?_
  rw [Asp n h0 this]
 ·have h5 := of_decide_eq_false h2
  have e2 : min (((bl n.toNat : Int) + 1) / 2).toNat IntKind.i64.bits = (bl n.toNat + 1) / 2 := by simp [IntKind.bits]; omega
  rw [e2, Int.one_mul]
  have hs := A33 n h0
  have hk : (bl n.toNat + 1) / 2 ≤ 32 := by omega
  have hp1 : (1 : Int) ≤ 2 ^ ((bl n.toNat + 1) / 2) := Int.pow_pos (by decide)
  have hp2 : (2 : Int) ^ ((bl n.toNat + 1) / 2) ≤ 4294967296 := by
   have : 2 ^ ((bl n.toNat + 1) / 2) ≤ 2 ^ 32 := Nat.pow_le_pow_right (by decide) hk
   have h6 : ((2 ^ ((bl n.toNat + 1) / 2) : Nat) : Int) ≤ ((2 ^ 32 : Nat) : Int) := by exact_mod_cast this
   rw [Int.natCast_pow] at h6
   simpa using h6
  generalize (2 : Int) ^ ((bl n.toNat + 1) / 2) = y at hs hp1 hp2
  rw [A5 (by omega) (by omega)]
  have hr := B3o n y h0 (by omega) hs
  rw [Agt (by omega) h1 y.toNat y hp1 hp2 hr (Nat.le_refl _)]
  exact Au rfl
 ·have := of_decide_eq_false h3; omega
theorem Agu : A7 Tryz.prog 110 Ru := B6 Aji 3 (fun x => Aca x.1) (fun x => by kernel_rfl) fun x hok _ => Ajj (of_decide_eq_true hok).1 (of_decide_eq_true hok).2
theorem Asq : By Tryz.prog [(110, Ru), (109, K7)] := A0 is_bV.plain Agu Ber
namespace V
def Acb (n : Int) : Tree (TCTs [cI, cI]) :=
 bif Az n 0 4611686018427387904 then .leaf (0, 3, ()) else bif decide (0 ≤ n ∧ n ≤ 4611686018427387904) then .leaf ((rt n), 0, ()) else .fail
theorem Ajk {n : Int} : (Acb n).sat (fun y => y = (RtV n, RtE n, ())) := by
 unfold Acb
 refine B2 (fun h1 => ?_) (fun h1 => B2 (fun h2 => ?_) (fun h2 => ?_))
 ·have : Ajh n = false := by
   unfold Az at h1; unfold Ajh
   simp at h1
   exact decide_eq_false (by omega)
  refine Au ?_
  unfold RtV RtE; rw [this]; rfl
 ·have : Ajh n = true := h2
  refine Au ?_
  unfold RtV RtE; rw [this]; rfl
 ·have := E8 h1
  have := of_decide_eq_false h2; omega
abbrev Asr : PureT := B9 [cI] [cI, cI] (fun x => true) (fun x => (RtV x.1, RtE x.1, ()))
theorem B8n : A7 Tryz.prog 185 Asr := B6 (Ad Ab Asq (fns_cons is_bU A2)) 2 (fun x => Acb x.1) (fun x => by kernel_rfl) fun x hok hw => Ajk
end V
theorem A14 {x lo hi : Int} (h : Az x lo hi = false) : lo ≤ x ∧ x ≤ hi := by
 unfold Az at h
 simp only [Bool.or_eq_false_iff, decide_eq_false_iff_not] at h
 omega
def Tw (x y : Int) : Bool := decide (max (max (max x (IntKind.i64.wrap (0 - x))) y) (IntKind.i64.wrap (0 - y)) > 4194304)
def Tx (x y : Int) : Bool := decide (min x y < -4194304)
def fpt (x y : Int) : Bool := decide (-4194304 ≤ x ∧ x ≤ 4194304 ∧ -4194304 ≤ y ∧ y ≤ 4194304)
theorem A7t (x : Int) (h1 : -9223372036854775808 ≤ x) (h2 : x ≤ 9223372036854775807) : IntKind.i64.wrap (0 - x) = if x = -9223372036854775808 then x else -x := by
 split
 ·rename_i h; subst h; rfl
 ·rw [A5 (by omega) (by omega)]; omega
theorem Ass {x y : Int} (hx : inK .i64 x) (hy : inK .i64 y) (h : Tw x y = true) : fpt x y = false := by
 simp only [inK, Hs, As] at hx hy
 unfold Tw at h; unfold fpt
 have h1 := of_decide_eq_true h
 rw [A7t x (by omega) (by omega), A7t y (by omega) (by omega)] at h1
 refine decide_eq_false ?_
 split at h1 <;> split at h1 <;> omega
theorem Ast {x y : Int} (h : Tx x y = true) : fpt x y = false := by
 unfold Tx at h; unfold fpt
 have h1 := of_decide_eq_true h
 refine decide_eq_false ?_
 omega
theorem B8o {x y : Int} (h : Tw x y = false) (k : Tx x y = false) : fpt x y = true := by
 unfold Tw at h; unfold Tx at k; unfold fpt
 have h1 := of_decide_eq_false h
 have k1 := of_decide_eq_false k
 refine decide_eq_true ?_
 omega
theorem Jw {x y : Int} (h : fpt x y = true) : -4194304 ≤ x ∧ x ≤ 4194304 ∧ -4194304 ≤ y ∧ y ≤ 4194304 := of_decide_eq_true h
theorem Kt {α : Type} {R : α → Prop} {x y : Int} {t u : Tree α} (hx : inK .i64 x) (hy : inK .i64 y) (h1 : fpt x y = false → t.sat R) (h2 : fpt x y = true → u.sat R) : (bif Tw x y then t else bif Tx x y then t else u).sat R :=
 B2 (fun h => h1 (Ass hx hy h)) (fun h => B2 (fun k => h1 (Ast k)) (fun k => h2 (B8o h k)))
def Lu (x y : Int) : Int := bif fpt x y then 0 else 2
def Iw (x y r : Int) : Bool := fpt x y && !Az r 1 65536
def Rv (x y r : Int) : Int := bif Iw x y r then 0 else 2
namespace V
def Asu (ax ay : Int) : Tree (TCTs [cI]) :=
 bif Tw ax ay then .leaf (2, ()) else bif Tx ax ay then .leaf (2, ()) else .leaf (0, ())
theorem Asv {ax ay : Int} (a1 : inK .i64 ax) (a2 : inK .i64 ay) : (Asu ax ay).sat (fun y => y = (Lu ax ay, ())) := by
 unfold Asu
 refine Kt a1 a2 (fun k => ?_) (fun k => ?_) <;> (refine Au ?_; unfold Lu; rw [k]; rfl)
abbrev Nh : PureT := B9 [cPt] [cI] (fun x => true) (fun x => (Lu x.1.1 x.1.2.1, ()))
theorem A3f : A7 Tryz.prog 50 Nh := B6 (Ad Ab Aa (fns_cons Wv (fns_cons is_bX A2))) 3 (fun x => Asu x.1.1 x.1.2.1) (fun x => by kernel_rfl) fun x hok hw => Asv hw.1.1 hw.1.2.1
def Asw (px py r : Int) : Tree (TCTs [cI]) :=
 bif Tw px py then .leaf (2, ()) else bif Tx px py then .leaf (2, ()) else
    bif decide (r < 1) then .leaf (2, ()) else bif decide (r > 65536) then .leaf (2, ()) else .leaf (0, ())
theorem Asx {px py r : Int} (a1 : inK .i64 px) (a2 : inK .i64 py) : (Asw px py r).sat (fun y => y = (Rv px py r, ())) := by
 unfold Asw
 refine Kt a1 a2 (fun k => ?_) (fun k1 => B2 (fun k => ?_) (fun k2 => B2 (fun k => ?_) (fun k3 => ?_)))
 ·refine Au ?_
  unfold Rv Iw; rw [k]; rfl
 ·refine Au ?_
  unfold Rv Iw Az; rw [k1, k]; rfl
 ·have k' : decide (65536 < r) = true := k
  refine Au ?_
  unfold Rv Iw Az; rw [k1, k2, k']; rfl
 ·have k' : decide (65536 < r) = false := k3
  refine Au ?_
  unfold Rv Iw Az; rw [k1, k2, k']; rfl
abbrev Jb : PureT := B9 [Al] [cI] (fun x => true) (fun x => (Rv x.1.1.1 x.1.1.2.1 x.1.2.1, ()))
theorem T4 : A7 Tryz.prog 188 Jb := B6 (Ad Ab Aa (fns_cons is_bY (fns_cons is_bX A2))) 3 (fun x => Asw x.1.1.1 x.1.1.2.1 x.1.2.1) (fun x => by kernel_rfl) fun x hok hw => Asx hw.1.1.1 hw.1.1.2.1
end V
def Asy (ax ay bx bY : Int) : Tree (TCTs [cI]) :=
 .leaf ((IntKind.i64.wrap (IntKind.i64.wrap (IntKind.i64.wrap (bx - ax) * IntKind.i64.wrap (bx - ax)) + IntKind.i64.wrap (IntKind.i64.wrap (bY - ay) * IntKind.i64.wrap (bY - ay)))), ())
theorem Asz {ax ay bx bY : Int} (hok : (fpt ax ay && fpt bx bY) = true) : (Asy ax ay bx bY).sat (fun y => y = (sq ax ay bx bY, ())) := by
 unfold Asy
 rw [Bool.and_eq_true] at hok
 have c1 := Jw hok.1
 have c2 := Jw hok.2
 have b1 := Ca (a := bx - ax) (b := bx - ax) (A := 8388608) (B := 8388608) (by omega) (by omega) (by omega) (by omega)
 have b2 := Ca (a := bY - ay) (b := bY - ay) (A := 8388608) (B := 8388608) (by omega) (by omega) (by omega) (by omega)
 rw [A5 (n := bx - ax) (by omega) (by omega), A5 (n := bY - ay) (by omega) (by omega), A5 (n := (bx - ax) * (bx - ax)) (by omega) (by omega), A5 (n := (bY - ay) * (bY - ay)) (by omega) (by omega), A5 (n := (bx - ax) * (bx - ax) + (bY - ay) * (bY - ay)) (by omega) (by omega)]
 refine Au ?_
 unfold sq; rfl
abbrev A7u : PureT := B9 [cPt, cPt] [cI] (fun x => fpt x.1.1 x.1.2.1 && fpt x.2.1.1 x.2.1.2.1) (fun x => (sq x.1.1 x.1.2.1 x.2.1.1 x.2.1.2.1, ()))
theorem Ajl : A7 Tryz.prog 111 A7u := B6 (Ad Ab Aa (fns_cons is_bZ A2)) 2 (fun x => Asy x.1.1 x.1.2.1 x.2.1.1 x.2.1.2.1) (fun x => by kernel_rfl) fun x hok hw => Asz hok
def B8p : List (Nat × PureT) := [(111, A7u), (110, Ru), (112, Wx), (109, K7)]
theorem At0 : By Tryz.prog B8p := A0 is_bZ.plain Ajl (A0 is_bV.plain Agu Bes)
def SqR (ax ay bx bY : Int) : Int × Int := bif fpt ax ay && fpt bx bY then (sq ax ay bx bY, 0) else (0, 2)
namespace V
def At1 (ax ay bx bY : Int) : Tree (TCTs [cI, cI]) :=
 bif Tw ax ay then .leaf (0, 2, ()) else bif Tx ax ay then .leaf (0, 2, ()) else
    bif Tw bx bY then .leaf (0, 2, ()) else bif Tx bx bY then .leaf (0, 2, ()) else
    bif fpt ax ay && fpt bx bY then .leaf ((sq ax ay bx bY), 0, ()) else .fail
theorem At2 {ax ay bx bY : Int} (a1 : inK .i64 ax) (a2 : inK .i64 ay) (a3 : inK .i64 bx) (a4 : inK .i64 bY) : (At1 ax ay bx bY).sat (fun y => y = ((SqR ax ay bx bY).1, (SqR ax ay bx bY).2, ())) := by
 unfold At1
 refine Kt a1 a2 (fun k => ?_) (fun k1 => Kt a3 a4 (fun k => ?_) (fun k2 => ?_))
 ·refine Au ?_
  unfold SqR; rw [k]; rfl
 ·refine Au ?_
  unfold SqR; rw [k1, k]; rfl
 ·rw [k1, k2]
  refine Au ?_
  unfold SqR; rw [k1, k2]; rfl
abbrev At3 : PureT := B9 [cPt, cPt] [cI, cI] (fun x => true) (fun x => ((SqR x.1.1 x.1.2.1 x.2.1.1 x.2.1.2.1).1, (SqR x.1.1 x.1.2.1 x.2.1.1 x.2.1.2.1).2, ()))
theorem At4 : A7 Tryz.prog 201 At3 := B6 (Ad Ab At0 (fns_cons is_b0 (fns_cons is_bX A2))) 3 (fun x => At1 x.1.1 x.1.2.1 x.2.1.1 x.2.1.2.1) (fun x => by kernel_rfl) fun x hok hw => At2 hw.1.1 hw.1.2.1 hw.2.1.1 hw.2.1.2.1
end V
def ToX (px qx d l : Int) : Int := qx + DW (64 * l * (px - qx)) d
def dTo (px py qx qy : Int) : Int := rt (sq px py qx qy * 4096)
def TwR (px py qx qy l : Int) : (Int × Int) × Int :=
 bif fpt px py && fpt qx qy then bif Az l 0 4194304 then ((0, 0), 3) else bif px == qx && py == qy then ((0, 0), 9) else
  bif fpt (ToX px qx (dTo px py qx qy) l) (ToX py qy (dTo px py qx qy) l) then ((ToX px qx (dTo px py qx qy) l, ToX py qy (dTo px py qx qy) l), 0) else ((0, 0), 4)
 else ((0, 0), 2)
theorem Agv {px py qx qy : Int} (h : fpt px py = true) (k : fpt qx qy = true) : 0 ≤ sq px py qx qy ∧ sq px py qx qy ≤ 140737488355328 := by
 have c1 := Jw h
 have c2 := Jw k
 have b1 := Ca (a := qx - px) (b := qx - px) (A := 8388608) (B := 8388608) (by omega) (by omega) (by omega) (by omega)
 have b2 := Ca (a := qy - py) (b := qy - py) (A := 8388608) (B := 8388608) (by omega) (by omega) (by omega) (by omega)
 have b3 := Ja (qx - px)
 have b4 := Ja (qy - py)
 unfold sq; omega
theorem Acc {px py qx qy : Int} (h : fpt px py = true) (k : fpt qx qy = true) (hne : ¬ (px = qx ∧ py = qy)) : 1 ≤ dTo px py qx qy ∧ dTo px py qx qy ≤ 576460752303423488 := by
 have h1 := Agv h k
 have h2 := B8e hne
 obtain ⟨r1, r2, r3⟩ := Gk (sq px py qx qy * 4096) (by omega)
 unfold dTo
 generalize rt (sq px py qx qy * 4096) = d at r1 r2 r3
 have hd : 1 ≤ d := by
  rcases Int.lt_or_le d 1 with x | x
  ·have : d = 0 := by omega
   subst this
   omega
  ·exact x
 have := Int.mul_le_mul_of_nonneg_left hd (show 0 ≤ d by omega)
 omega
namespace V
def B8q (px py qx qy l : Int) : Tree (TCTs [cPt, cI]) :=
 let d := rt (IntKind.i64.wrap (sq px py qx qy * 4096))
    let ux := IntKind.i64.wrap (IntKind.i64.wrap (64 * l) * IntKind.i64.wrap (px - qx))
    let uy := IntKind.i64.wrap (IntKind.i64.wrap (64 * l) * IntKind.i64.wrap (py - qy))
    bif Tw px py then .leaf ((0, 0, ()), 2, ()) else bif Tx px py then .leaf ((0, 0, ()), 2, ()) else
    bif Tw qx qy then .leaf ((0, 0, ()), 2, ()) else bif Tx qx qy then .leaf ((0, 0, ()), 2, ()) else
    bif Az l 0 4194304 then .leaf ((0, 0, ()), 3, ()) else
    bif px == qx && (py == qy && true) then .leaf ((0, 0, ()), 9, ()) else
    bif fpt px py && fpt qx qy then bif decide (0 ≤ IntKind.i64.wrap (sq px py qx qy * 4096) ∧ IntKind.i64.wrap (sq px py qx qy * 4096) ≤ 4611686018427387904) then
    bif Et ux d then bif Et uy d then
    bif Tw (IntKind.i64.wrap (qx + DW ux d)) (IntKind.i64.wrap (qy + DW uy d)) then .leaf ((0, 0, ()), 4, ()) else bif Tx (IntKind.i64.wrap (qx + DW ux d)) (IntKind.i64.wrap (qy + DW uy d)) then .leaf ((0, 0, ()), 4, ()) else
     .leaf (((IntKind.i64.wrap (qx + DW ux d)), (IntKind.i64.wrap (qy + DW uy d)), ()), 0, ())
    else .fail else .fail else .fail else .fail
theorem Azy {px py qx qy l : Int} (a1 : inK .i64 px) (a2 : inK .i64 py) (a3 : inK .i64 qx) (a4 : inK .i64 qy) : (B8q px py qx qy l).sat (fun y => y = (((TwR px py qx qy l).1.1, (TwR px py qx qy l).1.2, ()), (TwR px py qx qy l).2, ())) := by
 unfold B8q
 dsimp only
 refine Kt a1 a2 (fun k => ?_) (fun k1 => Kt a3 a4 (fun k => ?_) (fun k2 => B2 (fun k => ?_) (fun k3 => B2 (fun k => ?_) (fun k4 => ?_))))
 ·refine Au ?_
  unfold TwR; rw [k]; rfl
 ·refine Au ?_
  unfold TwR; rw [k1, k]; rfl
 ·refine Au ?_
  unfold TwR; rw [k1, k2, k]; rfl
 ·refine Au ?_
  rw [Bool.and_true] at k
  unfold TwR; rw [k1, k2, k3, k]; rfl
 ·have c1 := Jw k1
  have c2 := Jw k2
  have c3 := A14 k3
  rw [Bool.and_true] at k4
  have hne : ¬ (px = qx ∧ py = qy) := by
   intro hh; simp [hh.1, hh.2] at k4
  have s1 := Agv k1 k2
  have hd := Acc k1 k2 hne
  have b1 := Ca (a := 64 * l) (b := px - qx) (A := 268435456) (B := 8388608) (by omega) (by omega) (by omega) (by omega)
  have b2 := Ca (a := 64 * l) (b := py - qy) (A := 268435456) (B := 8388608) (by omega) (by omega) (by omega) (by omega)
  rw [A5 (n := sq px py qx qy * 4096) (by omega) (by omega), A5 (n := 64 * l) (by omega) (by omega), A5 (n := px - qx) (by omega) (by omega), A5 (n := py - qy) (by omega) (by omega), A5 (n := 64 * l * (px - qx)) (by omega) (by omega), A5 (n := 64 * l * (py - qy)) (by omega) (by omega)]
  have hdd : rt (sq px py qx qy * 4096) = dTo px py qx qy := rfl
  rw [hdd]
  have w1 := Wo (64 * l * (px - qx)) (dTo px py qx qy) 2251799813685248 hd.1 (by omega) (by omega) (by omega)
  have w2 := Wo (64 * l * (py - qy)) (dTo px py qx qy) 2251799813685248 hd.1 (by omega) (by omega) (by omega)
  rw [A5 (n := qx + DW (64 * l * (px - qx)) (dTo px py qx qy)) (by omega) (by omega), A5 (n := qy + DW (64 * l * (py - qy)) (dTo px py qx qy)) (by omega) (by omega)]
  have v1 : Et (64 * l * (px - qx)) (dTo px py qx qy) = true := by unfold Et; exact decide_eq_true (by omega)
  have v2 : Et (64 * l * (py - qy)) (dTo px py qx qy) = true := by unfold Et; exact decide_eq_true (by omega)
  rw [k1, k2, v1, v2]
  have v3 : decide (0 ≤ sq px py qx qy * 4096 ∧ sq px py qx qy * 4096 ≤ 4611686018427387904) = true := decide_eq_true (by omega)
  rw [v3]
  have hT : TwR px py qx qy l = bif fpt (ToX px qx (dTo px py qx qy) l) (ToX py qy (dTo px py qx qy) l) then ((ToX px qx (dTo px py qx qy) l, ToX py qy (dTo px py qx qy) l), 0) else ((0, 0), 4) := by
   unfold TwR; rw [k1, k2, k3, k4]; rfl
  rw [hT]
  simp only [cond_true, Bool.and_self]
  refine Kt ?_ ?_ (fun k => ?_) (fun k => ?_)
  ·simp only [inK, Hs, As]; omega
  ·simp only [inK, Hs, As]; omega
  ·have k' : fpt (ToX px qx (dTo px py qx qy) l) (ToX py qy (dTo px py qx qy) l) = false := k
   rw [k']; exact Au rfl
  ·have k' : fpt (ToX px qx (dTo px py qx qy) l) (ToX py qy (dTo px py qx qy) l) = true := k
   rw [k']; exact Au rfl
abbrev Acd : PureT := B9 [cPt, cPt, cI] [cPt, cI] (fun x => true) (fun x => (((TwR x.1.1 x.1.2.1 x.2.1.1 x.2.1.2.1 x.2.2.1).1.1, (TwR x.1.1 x.1.2.1 x.2.1.1 x.2.1.2.1 x.2.2.1).1.2, ()), (TwR x.1.1 x.1.2.1 x.2.1.1 x.2.1.2.1 x.2.2.1).2, ()))
theorem Ace : A7 Tryz.prog 56 Acd := B6 (Ad Ab At0 (fns_cons is_b1 (fns_cons is_bX A2))) 3 (fun x => B8q x.1.1 x.1.2.1 x.2.1.1 x.2.1.2.1 x.2.2.1) (fun x => by kernel_rfl) fun x hok hw => Azy hw.1.1 hw.1.2.1 hw.2.1.1 hw.2.1.2.1
end V
def B8r (a b c : Int) : Tree (TCTs [.b]) :=
 bif decide (a ≥ b) then .leaf ((decide (a ≤ c)), ()) else .leaf (false, ())
theorem Azz {a b c : Int} : (B8r a b c).sat (fun y => y = (!Az a b c, ())) := by
 unfold B8r
 refine B2 (fun h1 => ?_) (fun h1 => ?_)
 ·have h2 := of_decide_eq_true h1
  refine Au ?_
  congr 1
  unfold Az
  rw [Bool.eq_iff_iff]
  simp only [decide_eq_true_eq, Bool.not_eq_true', Bool.or_eq_false_iff, decide_eq_false_iff_not]
  omega
 ·have h2 := of_decide_eq_false h1
  refine Au ?_
  congr 1
  have : Az a b c = true := by unfold Az; simp; omega
  rw [this]; rfl
abbrev Uk : PureT := B9 [cI, cI, cI] [.b] (fun x => true) (fun x => (!Az x.1 x.2.1 x.2.2.1, ()))
theorem X0 : A7 Tryz.prog 117 Uk := B6 (Ad Ab Aa (fns_cons is_b2 A2)) 2 (fun x => B8r x.1 x.2.1 x.2.2.1) (fun x => by kernel_rfl) fun x hok hw => Azz
def B8s : List (Nat × PureT) := [(117, Uk)]
theorem B8t : By Tryz.prog B8s := A0 is_b2.plain X0 Aa
theorem B00 (x y : Int) : fpt x y = (!Az x (-4194304) 4194304 && !Az y (-4194304) 4194304) := by
 unfold fpt Az
 rw [Bool.eq_iff_iff]
 simp only [decide_eq_true_eq, Bool.and_eq_true, Bool.not_eq_true', Bool.or_eq_false_iff, decide_eq_false_iff_not]
 omega
namespace V
def B8u (x y : Int) : Tree (TCTs [.b]) :=
 bif !Az x (-4194304) 4194304 then .leaf ((!Az y (-4194304) 4194304), ()) else .leaf (false, ())
theorem B01 {x y : Int} : (B8u x y).sat (fun z => z = (fpt x y, ())) := by
 unfold B8u
 rw [B00]
 refine B2 (fun h1 => ?_) (fun h1 => ?_) <;> (refine Au ?_; rw [h1]; rfl)
abbrev Ul : PureT := B9 [cPt] [.b] (fun x => true) (fun x => (fpt x.1.1 x.1.2.1, ()))
theorem Um : A7 Tryz.prog 116 Ul := B6 (Ad Ab B8t (fns_cons is_b3 A2)) 2 (fun x => B8u x.1.1 x.1.2.1) (fun x => by kernel_rfl) fun x hok hw => B01
def B8v (ax ay bx bY : Int) : Tree (TCTs [cI]) :=
 .leaf ((IntKind.i64.wrap (IntKind.i64.wrap (IntKind.i64.wrap (ax - bx) * IntKind.i64.wrap (ax - bx)) + IntKind.i64.wrap (IntKind.i64.wrap (ay - bY) * IntKind.i64.wrap (ay - bY)))), ())
theorem B02 {ax ay bx bY : Int} (hok : (fpt ax ay && fpt bx bY) = true) : (B8v ax ay bx bY).sat (fun y => y = (sq ax ay bx bY, ())) := by
 unfold B8v
 rw [Bool.and_eq_true] at hok
 have c1 := Jw hok.1
 have c2 := Jw hok.2
 have b1 := Ca (a := ax - bx) (b := ax - bx) (A := 8388608) (B := 8388608) (by omega) (by omega) (by omega) (by omega)
 have b2 := Ca (a := ay - bY) (b := ay - bY) (A := 8388608) (B := 8388608) (by omega) (by omega) (by omega) (by omega)
 rw [A5 (n := ax - bx) (by omega) (by omega), A5 (n := ay - bY) (by omega) (by omega), A5 (n := (ax - bx) * (ax - bx)) (by omega) (by omega), A5 (n := (ay - bY) * (ay - bY)) (by omega) (by omega), A5 (n := (ax - bx) * (ax - bx) + (ay - bY) * (ay - bY)) (by omega) (by omega)]
 refine Au ?_
 have : (ax - bx) * (ax - bx) + (ay - bY) * (ay - bY) = sq ax ay bx bY := by unfold sq; grind
 rw [this]
abbrev B3r : PureT := B9 [cPt, cPt] [cI] (fun x => fpt x.1.1 x.1.2.1 && fpt x.2.1.1 x.2.1.2.1) (fun x => (sq x.1.1 x.1.2.1 x.2.1.1 x.2.1.2.1, ()))
theorem B3s : A7 Tryz.prog 155 B3r := B6 (Ad Ab Aa (fns_cons is_b4 A2)) 2 (fun x => B8v x.1.1 x.1.2.1 x.2.1.1 x.2.1.2.1) (fun x => by kernel_rfl) fun x hok hw => B02 hok
end V
theorem B8w {n : Int} (h0 : 0 ≤ n) (h1 : n ≤ 4611686018427387904) : 0 ≤ rt n ∧ rt n ≤ 2147483648 := by
 obtain ⟨r1, r2, r3⟩ := Gk n h0
 refine ⟨r1, ?_⟩
 rcases Int.lt_or_le 2147483648 (rt n) with x | x
 ·have := E4 (a := 2147483649) (b := rt n) (by omega) (by omega)
  omega
 ·exact x
noncomputable def Agw : Code := (A8 (bodyOf Tryz.f154)).getD 0 .skip
def M9 : Lay := { keys := [0, 3, 4], ks := [.d cI, .d cI, .d cI], bs := [], n := 23, nx := 1000, marks := [] }
def B8x : Lay := { keys := [3], ks := [.d cI], bs := [], n := 23, nx := 1000, marks := [] }
def P4 : XE → Lay := fun _ => B8x
def Hl (n lo hi : Int) : M9.T := ((n, lo, hi, ()), ())
def Q8 (lo : Int) : A1 P4 := ⟨.exit 0, ((lo, ()), ())⟩
def Ni (lo hi : Int) : Int := IntKind.i64.wrap ((IntKind.i64.wrap (IntKind.i64.wrap (lo + hi) + 1)).tdiv 2)
def Ma (n lo hi : Int) : Tree (M9.T ⊕ A1 P4) := bif decide (lo < hi) then bif decide (IntKind.i64.wrap (Ni lo hi * Ni lo hi) ≤ n) then .leaf (.inl (Hl n (Ni lo hi) hi)) else .leaf (.inl (Hl n lo (IntKind.i64.wrap (Ni lo hi - 1)))) else .leaf (.inr (Q8 lo))
def Ku (g : M9.T) : Tree (M9.T ⊕ A1 P4) := Ma g.1.1 g.1.2.1 g.1.2.2.1
def A3g (g : M9.T) : Nat := Int.toNat (g.1.2.2.1 - g.1.2.1) + 1
theorem B8y : Ae Tryz.prog 154 Agw (A9 M9 P4 (Bu [.exit 0] Ku A3g)) := Aw (Ad Ab Aa A2) 1 _ M9 P4 (fun _ => Nat.le_refl _) [.exit 0] Ku A3g (fun g => by kernel_rfl)
theorem B03 {n : Int} (h1 : 0 ≤ n) (h2 : n ≤ 4611686018427387904) : ∀ (k : Nat) (lo hi : Int), 0 ≤ lo → lo ≤ rt n → rt n ≤ hi → hi ≤ 2147483648 → (hi - lo).toNat ≤ k → iter Ku (k + 1) (Hl n lo hi) = some (Q8 (rt n)) := by
 intro k
 induction k with
 | zero =>
  intro lo hi h3 h4 h5 h6 hk
  have e1 : lo = rt n := by omega
  subst e1
  refine Dh ?_
  show (Ma n (rt n) hi).run = _
  unfold Ma
  rw [decide_eq_false (show ¬ rt n < hi by omega)]
  rfl
 | succ k ih =>
  intro lo hi h3 h4 h5 h6 hk
  obtain ⟨r1, r2, r3⟩ := Gk n h1
  have em : Ni lo hi = (lo + hi + 1) / 2 := by
   unfold Ni
   rw [A5 (n := lo + hi) (by omega) (by omega), A5 (n := lo + hi + 1) (by omega) (by omega), Int.tdiv_eq_ediv_of_nonneg (by omega), A5 (n := (lo + hi + 1) / 2) (by omega) (by omega)]
  have hm := Ca (a := (lo + hi + 1) / 2) (b := (lo + hi + 1) / 2) (A := 2147483648) (B := 2147483648) (by omega) (by omega) (by omega) (by omega)
  have hs : Ku (Hl n lo hi) = bif decide (lo < hi) then bif decide ((lo + hi + 1) / 2 * ((lo + hi + 1) / 2) ≤ n) then .leaf (.inl (Hl n ((lo + hi + 1) / 2) hi)) else .leaf (.inl (Hl n lo ((lo + hi + 1) / 2 - 1))) else .leaf (.inr (Q8 lo)) := by
   show Ma n lo hi = _
   unfold Ma
   rw [em, A5 (n := (lo + hi + 1) / 2 * ((lo + hi + 1) / 2)) (by omega) (by omega), A5 (n := (lo + hi + 1) / 2 - 1) (by omega) (by omega)]
  cases k1 : decide (lo < hi) with
  | false =>
   have k1' := of_decide_eq_false k1
   have e1 : lo = rt n := by omega
   have : (Ku (Hl n lo hi)).run = some (.inr (Q8 (rt n))) := by rw [hs, k1, ← e1]; rfl
   exact Dh this
  | true =>
   have k1' := of_decide_eq_true k1
   cases k2 : decide ((lo + hi + 1) / 2 * ((lo + hi + 1) / 2) ≤ n) with
   | true =>
    have k2' := of_decide_eq_true k2
    have hle : (lo + hi + 1) / 2 ≤ rt n := by
     rcases Int.lt_or_le (rt n) ((lo + hi + 1) / 2) with x | x
     ·have := E4 (a := rt n + 1) (b := (lo + hi + 1) / 2) (by omega) (by omega)
      omega
     ·exact x
    rw [Jq (g' := Hl n ((lo + hi + 1) / 2) hi) (by rw [hs, k1, k2]; rfl)]
    exact ih _ _ (by omega) hle h5 h6 (by omega)
   | false =>
    have k2' := of_decide_eq_false k2
    have hle : rt n ≤ (lo + hi + 1) / 2 - 1 := by
     rcases Int.lt_or_le ((lo + hi + 1) / 2 - 1) (rt n) with x | x
     ·have := E4 (a := (lo + hi + 1) / 2) (b := rt n) (by omega) (by omega)
      omega
     ·exact x
    rw [Jq (g' := Hl n lo ((lo + hi + 1) / 2 - 1)) (by rw [hs, k1, k2]; rfl)]
    exact ih _ _ h3 h4 hle (by omega) (by omega)
noncomputable def B8z : Ctx := Gu Tryz.prog [] [(154, Tryz.f154)] [((154, V.keyOf Agw), A9 M9 P4 (Bu [.exit 0] Ku A3g))]
theorem Ajm : CtxOk B8z := Bx Ab Aa (fns_cons is_b6 A2) (Bg rfl (by kernel_rfl) B8y)
def Acf (n : Int) : Option (A1 P4) := iter Ku (Int.toNat (2147483648 - 0) + 1) (Hl n 0 2147483648)
def Acg (n : Int) : Tree (TCTs [cI]) := bif isE (.exit 0) (Acf n) then .leaf ((B7 (.exit 0) (Acf n)).1.1, ()) else .fail
theorem Ajn {n : Int} (h0 : 0 ≤ n) (h1 : n ≤ 4611686018427387904) : (Acg n).sat (fun y => y = (rt n, ())) := by
 have hb := B8w h0 h1
 have hy : Acf n = some (Q8 (rt n)) := B03 h0 h1 _ 0 2147483648 (by omega) hb.1 hb.2 (by omega) (Nat.le_refl _)
 unfold Acg
 rw [hy]
 exact Au rfl
theorem Agx : A7 Tryz.prog 154 Ru := B6 Ajm 3 (fun x => Acg x.1) (fun x => by kernel_rfl) fun x hok _ => Ajn (of_decide_eq_true hok).1 (of_decide_eq_true hok).2
namespace V
abbrev At5 : PureT := Ru
theorem B90 : A7 Tryz.prog 154 At5 := Agx
end V
theorem Mb {n d w j : Int} (hd : 1 ≤ d) (hw : w = DW n d + j) : n - w * d = DR n d - j * d := by
 obtain ⟨a, _, _⟩ := U9 n d hd
 rw [hw]
 have : (DW n d + j) * d = DW n d * d + j * d := by grind
 omega
theorem Q9 {n d w : Int} (hok : Et n d = true) (h1 : DW n d - 1 ≤ w) (h2 : w ≤ DW n d + 1) :
  IntKind.i64.wrap (2 * IntKind.i64.wrap (n - IntKind.i64.wrap (w * d))) = 2 * (n - w * d) ∧ IntKind.i64.wrap (n - IntKind.i64.wrap (w * d)) = n - w * d ∧ IntKind.i64.wrap (w + 1) = w + 1 ∧ IntKind.i64.wrap (w - 1) = w - 1 ∧ -9223372036854775807 ≤ w ∧ w ≤ 9223372036854775807 := by
 unfold Et at hok
 obtain ⟨k1, k2, k3, k4⟩ := of_decide_eq_true hok
 obtain ⟨a1, a2, a3⟩ := U9 n d k3
 have hb := Wo n d 1152921504606846976 k3 (by omega) (by omega) (by omega)
 have hr : n - w * d = DR n d - (w - DW n d) * d := Mb k3 (by omega)
 have hj := Ca (a := w - DW n d) (b := d) (A := 1) (B := d) (by omega) (by omega) (by omega) (by omega)
 rw [A5 (n := w * d) (by omega) (by omega), A5 (n := n - w * d) (by omega) (by omega), A5 (n := 2 * (n - w * d)) (by omega) (by omega), A5 (n := w + 1) (by omega) (by omega), A5 (n := w - 1) (by omega) (by omega)]
 exact ⟨rfl, rfl, rfl, rfl, by omega, by omega⟩
noncomputable def At6 : Code := (A8 (bodyOf Tryz.f156)).getD 0 .skip
noncomputable def At7 : Code := (A8 (bodyOf Tryz.f156)).getD 1 .skip
abbrev Bin : List BK := [(0, 149, [.d cI, .d cI])]
def L_p : Lay := { keys := [0, 1, 4, 5], ks := [.d cI, .d cI, .p 0 0 0 0, .d cI], bs := Bin, n := 37, nx := 1000, marks := [] }
def E_p : XE → Lay := fun _ => L_p
def Kv (z : SKTs [.d cI, .d cI]) (n d w : Int) : L_p.T := ((n, d, (), w, ()), (z, ()))
def Zj (i : Nat) (z : SKTs [.d cI, .d cI]) (n d w : Int) : A1 E_p := ⟨.exit i, ((n, d, (), w, ()), (z, ()))⟩
def Lv (n d w : Int) : Int := IntKind.i64.wrap (2 * IntKind.i64.wrap (n - IntKind.i64.wrap (w * d)))
def Qa (g : L_p.T) : Tree (L_p.T ⊕ A1 E_p) := bif decide (Lv g.1.1 g.1.2.1 g.1.2.2.2.1 ≥ g.1.2.1) then .leaf (.inl (Kv g.2.1 g.1.1 g.1.2.1 (IntKind.i64.wrap (g.1.2.2.2.1 + 1)))) else .leaf (.inr (Zj 0 g.2.1 g.1.1 g.1.2.1 g.1.2.2.2.1))
def Qb (g : L_p.T) : Tree (L_p.T ⊕ A1 E_p) := bif decide (Lv g.1.1 g.1.2.1 g.1.2.2.2.1 < IntKind.i64.wrap (0 - g.1.2.1)) then .leaf (.inl (Kv g.2.1 g.1.1 g.1.2.1 (IntKind.i64.wrap (g.1.2.2.2.1 - 1)))) else .leaf (.inr (Zj 2 g.2.1 g.1.1 g.1.2.1 g.1.2.2.2.1))
def A7v (_ : L_p.T) : Nat := 3
theorem Bio : Ae Tryz.prog 156 At6 (A9 L_p E_p (Bu [.exit 0] Qa A7v)) := Aw (Ad Ab Aa A2) 1 _ L_p E_p (fun _ => Nat.le_refl _) [.exit 0] Qa A7v (fun g => by kernel_rfl)
theorem Bip : Ae Tryz.prog 156 At7 (A9 L_p E_p (Bu [.exit 2] Qb A7v)) := Aw (Ad Ab Aa A2) 1 _ L_p E_p (fun _ => Nat.le_refl _) [.exit 2] Qb A7v (fun g => by kernel_rfl)
theorem Bet {z : SKTs [.d cI, .d cI]} {n d : Int} (hok : Et n d = true) : ∀ (k : Nat) (w : Int), DW n d - 1 ≤ w → w ≤ DW n d + 1 → (DW n d + 1 - w).toNat ≤ k → iter Qa (k + 1) (Kv z n d w) = some (Zj 0 z n d (max w (DW n d))) := by
 have hok' := hok
 unfold Et at hok'
 obtain ⟨k1, k2, k3, k4⟩ := of_decide_eq_true hok'
 obtain ⟨a1, a2, a3⟩ := U9 n d k3
 intro k
 induction k with
 | zero =>
  intro w h1 h2 hk
  obtain ⟨w1, w2, w3, w4, w5⟩ := Q9 hok h1 h2
  have hr : n - w * d = DR n d - (w - DW n d) * d := Mb k3 (by omega)
  have hj : w - DW n d = 1 := by omega
  have hc : decide (Lv n d w ≥ d) = false := by
   unfold Lv; rw [w1, hr, hj]; exact decide_eq_false (by omega)
  have : (Qa (Kv z n d w)).run = some (.inr (Zj 0 z n d w)) := by
   show (bif decide (Lv n d w ≥ d) then _ else _ : Tree (L_p.T ⊕ A1 E_p)).run = _
   rw [hc]; rfl
  rw [Dh this, show max w (DW n d) = w by omega]
 | succ k ih =>
  intro w h1 h2 hk
  obtain ⟨w1, w2, w3, w4, w5⟩ := Q9 hok h1 h2
  have hr : n - w * d = DR n d - (w - DW n d) * d := Mb k3 (by omega)
  cases q : decide (Lv n d w ≥ d) with
  | true =>
   have q' := of_decide_eq_true q
   unfold Lv at q'
   rw [w1, hr] at q'
   have hlt : w = DW n d - 1 := by
    rcases (show w = DW n d - 1 ∨ w = DW n d ∨ w = DW n d + 1 by omega) with x | x | x
    ·exact x
    ·rw [x, Int.sub_self] at q'; omega
    ·rw [show w - DW n d = 1 by omega] at q'; omega
   have : (Qa (Kv z n d w)).run = some (.inl (Kv z n d (w + 1))) := by
    show (bif decide (Lv n d w ≥ d) then .leaf (.inl (Kv z n d (IntKind.i64.wrap (w + 1)))) else _ : Tree (L_p.T ⊕ A1 E_p)).run = _
    rw [q, w3]; rfl
   rw [Jq this, ih (w + 1) (by omega) (by omega) (by omega), show max (w + 1) (DW n d) = max w (DW n d) by omega]
  | false =>
   have q' := of_decide_eq_false q
   unfold Lv at q'
   rw [w1, hr] at q'
   have hge : DW n d ≤ w := by
    rcases (show w = DW n d - 1 ∨ DW n d ≤ w by omega) with x | x
    ·rw [show w - DW n d = -1 by omega] at q'; omega
    ·exact x
   have : (Qa (Kv z n d w)).run = some (.inr (Zj 0 z n d w)) := by
    show (bif decide (Lv n d w ≥ d) then _ else _ : Tree (L_p.T ⊕ A1 E_p)).run = _
    rw [q]; rfl
   rw [Dh this, show max w (DW n d) = w by omega]
theorem Beu {z : SKTs [.d cI, .d cI]} {n d : Int} (hok : Et n d = true) : ∀ (k : Nat) (w : Int), DW n d ≤ w → w ≤ DW n d + 1 → (w - DW n d).toNat ≤ k → iter Qb (k + 1) (Kv z n d w) = some (Zj 2 z n d (DW n d)) := by
 have hok' := hok
 unfold Et at hok'
 obtain ⟨k1, k2, k3, k4⟩ := of_decide_eq_true hok'
 obtain ⟨a1, a2, a3⟩ := U9 n d k3
 have hw0 : IntKind.i64.wrap (0 - d) = 0 - d := A5 (by omega) (by omega)
 intro k
 induction k with
 | zero =>
  intro w h1 h2 hk
  obtain ⟨w1, w2, w3, w4, w5⟩ := Q9 hok (by omega) h2
  have e : w = DW n d := by omega
  have hr : n - w * d = DR n d - (w - DW n d) * d := Mb k3 (by omega)
  have hc : decide (Lv n d w < IntKind.i64.wrap (0 - d)) = false := by
   unfold Lv; rw [w1, hr, hw0, show w - DW n d = 0 by omega]; exact decide_eq_false (by omega)
  have : (Qb (Kv z n d w)).run = some (.inr (Zj 2 z n d w)) := by
   show (bif decide (Lv n d w < IntKind.i64.wrap (0 - d)) then _ else _ : Tree (L_p.T ⊕ A1 E_p)).run = _
   rw [hc]; rfl
  rw [Dh this, e]
 | succ k ih =>
  intro w h1 h2 hk
  obtain ⟨w1, w2, w3, w4, w5⟩ := Q9 hok (by omega) h2
  have hr : n - w * d = DR n d - (w - DW n d) * d := Mb k3 (by omega)
  cases q : decide (Lv n d w < IntKind.i64.wrap (0 - d)) with
  | true =>
   have q' := of_decide_eq_true q
   unfold Lv at q'
   rw [w1, hr, hw0] at q'
   have hlt : w = DW n d + 1 := by
    rcases (show w = DW n d ∨ w = DW n d + 1 by omega) with x | x
    ·rw [x, Int.sub_self] at q'; omega
    ·exact x
   have : (Qb (Kv z n d w)).run = some (.inl (Kv z n d (w - 1))) := by
    show (bif decide (Lv n d w < IntKind.i64.wrap (0 - d)) then .leaf (.inl (Kv z n d (IntKind.i64.wrap (w - 1)))) else _ : Tree (L_p.T ⊕ A1 E_p)).run = _
    rw [q, w4]; rfl
   rw [Jq this]
   exact ih (w - 1) (by omega) (by omega) (by omega)
  | false =>
   have q' := of_decide_eq_false q
   unfold Lv at q'
   rw [w1, hr, hw0] at q'
   have hge : w = DW n d := by
    rcases (show w = DW n d ∨ w = DW n d + 1 by omega) with x | x
    ·exact x
    ·rw [show w - DW n d = 1 by omega] at q'; omega
   have : (Qb (Kv z n d w)).run = some (.inr (Zj 2 z n d w)) := by
    show (bif decide (Lv n d w < IntKind.i64.wrap (0 - d)) then _ else _ : Tree (L_p.T ⊕ A1 E_p)).run = _
    rw [q]; rfl
   rw [Dh this, hge]
noncomputable def At8 : Ctx := Gu Tryz.prog [] [(156, Tryz.f156)] [((156, V.keyOf At6), A9 L_p E_p (Bu [.exit 0] Qa A7v)), ((156, V.keyOf At7), A9 L_p E_p (Bu [.exit 2] Qb A7v))]
theorem A7w : CtxOk At8 := Bx Ab Aa (fns_cons is_b5 A2) (by
 intro p hp d hd g hg
 rw [List.mem_singleton] at hp
 subst hp
 have hl : A8 (bodyOf Tryz.f156) = [At6, At7] := by kernel_rfl
 simp only at hd hg
 rw [hl] at hd
 simp only [List.mem_cons, List.not_mem_nil, or_false] at hd
 rcases hd with rfl | rfl
 ·have h2 : some (A9 L_p E_p (Bu [.exit 0] Qa A7v)) = some g := by rw [← hg]; kernel_rfl
  cases h2
  exact Bio
 ·have h2 : some (A9 L_p E_p (Bu [.exit 2] Qb A7v)) = some g := by rw [← hg]; kernel_rfl
  cases h2
  exact Bip)
def At9 (n d : Int) : Option (A1 E_p) := iter Qa 3 (Kv (0, 0, ()) n d (IntKind.i64.wrap (n.tdiv d)))
def Ata (v : L_p.T) : Option (A1 E_p) := iter Qb 3 v
def b_p (v : L_p.T) : Tree (TCTs [.st [cI, cI]]) := .leaf ((v.1.2.2.2.1, IntKind.i64.wrap (v.1.1 - IntKind.i64.wrap (v.1.2.2.2.1 * v.1.2.1)), ()), ())
def B91 (n d : Int) : Tree (TCTs [.st [cI, cI]]) := bif d != 0 then bif isE (.exit 0) (At9 n d) then bif isE (.exit 2) (Ata (B7 (.exit 0) (At9 n d))) then b_p (B7 (.exit 2) (Ata (B7 (.exit 0) (At9 n d)))) else .fail else .fail else .fail
theorem B04 {n d : Int} (hok : Et n d = true) : (B91 n d).sat (fun y => y = ((DW n d, DR n d, ()), ())) := by
 have hok' := hok
 unfold Et at hok'
 obtain ⟨k1, k2, k3, k4⟩ := of_decide_eq_true hok'
 have b := B3l n d 1152921504606846976 k3 (by omega) (by omega)
 have hd : (d != 0) = true := by simp; omega
 have near : DW n d - 1 ≤ n.tdiv d ∧ n.tdiv d ≤ DW n d + 1 := by
  rcases Int.lt_or_le (2 * n.tmod d) d with x | x
  ·rcases Int.lt_or_le (2 * n.tmod d) (-d) with y | y
   ·have := (B3n n d k3 y).1; omega
   ·have := (As4 n d k3 x y).1; omega
  ·have := (B3m n d k3 x).1; omega
 have hy1 : At9 n d = some (Zj 0 (0, 0, ()) n d (max (n.tdiv d) (DW n d))) := by
  unfold At9
  rw [A5 (n := n.tdiv d) (by omega) (by omega)]
  exact Bet hok 2 _ near.1 near.2 (by omega)
 have hy2 : Ata (Kv (0, 0, ()) n d (max (n.tdiv d) (DW n d))) = some (Zj 2 (0, 0, ()) n d (DW n d)) := Beu hok 2 _ (by omega) (by omega) (by omega)
 unfold B91
 rw [hd, hy1]
 show (bif isE (.exit 2) (Ata (Kv (0, 0, ()) n d (max (n.tdiv d) (DW n d)))) then b_p (B7 (.exit 2) (Ata (Kv (0, 0, ()) n d (max (n.tdiv d) (DW n d))))) else .fail : Tree (TCTs [.st [cI, cI]])).sat _
 rw [hy2]
 show (b_p (Kv (0, 0, ()) n d (DW n d))).sat _
 refine Au ?_
 show ((DW n d, IntKind.i64.wrap (n - IntKind.i64.wrap (DW n d * d)), ()), ()) = _
 rw [(Q9 hok (w := DW n d) (by omega) (by omega)).2.1]
 rfl
namespace V
abbrev X1 : PureT := B9 [cI, cI] [.st [cI, cI]] (fun x => Et x.1 x.2.1) (fun x => ((DW x.1 x.2.1, DR x.1 x.2.1, ()), ()))
theorem A7x : A7 Tryz.prog 156 X1 := B6 A7w 3 (fun x => B91 x.1 x.2.1) (fun x => by kernel_rfl) fun _ hok _ => B04 hok
def B05 : List (Nat × PureT) := [(117, Uk), (116, Ul), (155, B3r), (156, X1), (154, Ru)]
theorem B06 : By Tryz.prog B05 := A0 is_b2.plain X0 (A0 is_b3.plain Um (A0 is_b4.plain B3s (A0 is_b5.plain A7x (A0 is_b6.plain Agx Aa))))
def Atb (px py qx qy l : Int) : Tree (TCTs [cPt, cI]) :=
 let d := rt (IntKind.i64.wrap (4096 * sq px py qx qy))
    let ux := IntKind.i64.wrap (IntKind.i64.wrap (64 * IntKind.i64.wrap (px - qx)) * l)
    let uy := IntKind.i64.wrap (IntKind.i64.wrap (64 * IntKind.i64.wrap (py - qy)) * l)
    bif !fpt px py then .leaf ((0, 0, ()), 2, ()) else bif !fpt qx qy then .leaf ((0, 0, ()), 2, ()) else
    bif !!Az l 0 4194304 then .leaf ((0, 0, ()), 3, ()) else
    bif px == qx && (py == qy && true) then .leaf ((0, 0, ()), 9, ()) else
    bif fpt px py && fpt qx qy then bif decide (0 ≤ IntKind.i64.wrap (4096 * sq px py qx qy) ∧ IntKind.i64.wrap (4096 * sq px py qx qy) ≤ 4611686018427387904) then
    bif Et ux d then bif Et uy d then
    bif !fpt (IntKind.i64.wrap (qx + DW ux d)) (IntKind.i64.wrap (qy + DW uy d)) then .leaf ((0, 0, ()), 4, ()) else
     .leaf (((IntKind.i64.wrap (qx + DW ux d)), (IntKind.i64.wrap (qy + DW uy d)), ()), 0, ())
    else .fail else .fail else .fail else .fail
theorem Atc {px py qx qy l : Int} : (Atb px py qx qy l).sat (fun y => y = (((TwR px py qx qy l).1.1, (TwR px py qx qy l).1.2, ()), (TwR px py qx qy l).2, ())) := by
 unfold Atb
 dsimp only
 refine B2 (fun k => ?_) (fun k1 => B2 (fun k => ?_) (fun k2 => B2 (fun k => ?_) (fun k3 => B2 (fun k => ?_) (fun k4 => ?_))))
 ·have k' : fpt px py = false := by simpa using k
  refine Au ?_
  unfold TwR; rw [k']; rfl
 ·have k1' : fpt px py = true := by simpa using k1
  have k' : fpt qx qy = false := by simpa using k
  refine Au ?_
  unfold TwR; rw [k1', k']; rfl
 ·have k1' : fpt px py = true := by simpa using k1
  have k2' : fpt qx qy = true := by simpa using k2
  have k' : Az l 0 4194304 = true := by simpa using k
  refine Au ?_
  unfold TwR; rw [k1', k2', k']; rfl
 ·have k1' : fpt px py = true := by simpa using k1
  have k2' : fpt qx qy = true := by simpa using k2
  have k3' : Az l 0 4194304 = false := by simpa using k3
  refine Au ?_
  rw [Bool.and_true] at k
  unfold TwR; rw [k1', k2', k3', k]; rfl
 ·have k1' : fpt px py = true := by simpa using k1
  have k2' : fpt qx qy = true := by simpa using k2
  have k3' : Az l 0 4194304 = false := by simpa using k3
  have c1 := Jw k1'
  have c2 := Jw k2'
  have c3 := A14 k3'
  rw [Bool.and_true] at k4
  have hne : ¬ (px = qx ∧ py = qy) := by
   intro hh; simp [hh.1, hh.2] at k4
  have s1 := Agv k1' k2'
  have hd := Acc k1' k2' hne
  have ex : 64 * (px - qx) * l = 64 * l * (px - qx) := by grind
  have ey : 64 * (py - qy) * l = 64 * l * (py - qy) := by grind
  have b1 := Ca (a := 64 * l) (b := px - qx) (A := 268435456) (B := 8388608) (by omega) (by omega) (by omega) (by omega)
  have b2 := Ca (a := 64 * l) (b := py - qy) (A := 268435456) (B := 8388608) (by omega) (by omega) (by omega) (by omega)
  rw [A5 (n := 4096 * sq px py qx qy) (by omega) (by omega), A5 (n := px - qx) (by omega) (by omega), A5 (n := py - qy) (by omega) (by omega), A5 (n := 64 * (px - qx)) (by omega) (by omega), A5 (n := 64 * (py - qy)) (by omega) (by omega), ex, ey, A5 (n := 64 * l * (px - qx)) (by omega) (by omega), A5 (n := 64 * l * (py - qy)) (by omega) (by omega)]
  have hdd : rt (4096 * sq px py qx qy) = dTo px py qx qy := by unfold dTo; rw [Int.mul_comm]
  rw [hdd]
  have w1 := Wo (64 * l * (px - qx)) (dTo px py qx qy) 2251799813685248 hd.1 (by omega) (by omega) (by omega)
  have w2 := Wo (64 * l * (py - qy)) (dTo px py qx qy) 2251799813685248 hd.1 (by omega) (by omega) (by omega)
  rw [A5 (n := qx + DW (64 * l * (px - qx)) (dTo px py qx qy)) (by omega) (by omega), A5 (n := qy + DW (64 * l * (py - qy)) (dTo px py qx qy)) (by omega) (by omega)]
  have v1 : Et (64 * l * (px - qx)) (dTo px py qx qy) = true := by unfold Et; exact decide_eq_true (by omega)
  have v2 : Et (64 * l * (py - qy)) (dTo px py qx qy) = true := by unfold Et; exact decide_eq_true (by omega)
  have v3 : decide (0 ≤ 4096 * sq px py qx qy ∧ 4096 * sq px py qx qy ≤ 4611686018427387904) = true := decide_eq_true (by omega)
  have hT : TwR px py qx qy l = bif fpt (ToX px qx (dTo px py qx qy) l) (ToX py qy (dTo px py qx qy) l) then ((ToX px qx (dTo px py qx qy) l, ToX py qy (dTo px py qx qy) l), 0) else ((0, 0), 4) := by
   unfold TwR; rw [k1', k2', k3', k4]; rfl
  rw [k1', k2', v1, v2, v3, hT]
  simp only [cond_true, Bool.and_self]
  refine B2 (fun k => ?_) (fun k => ?_)
  ·have k' : fpt (ToX px qx (dTo px py qx qy) l) (ToX py qy (dTo px py qx qy) l) = false := by
    have : fpt (qx + DW (64 * l * (px - qx)) (dTo px py qx qy)) (qy + DW (64 * l * (py - qy)) (dTo px py qx qy)) = false := by simpa using k
    exact this
   rw [k']; exact Au rfl
  ·have k' : fpt (ToX px qx (dTo px py qx qy) l) (ToX py qy (dTo px py qx qy) l) = true := by
    have : fpt (qx + DW (64 * l * (px - qx)) (dTo px py qx qy)) (qy + DW (64 * l * (py - qy)) (dTo px py qx qy)) = true := by simpa using k
    exact this
   rw [k']; exact Au rfl
abbrev A7y : PureT := B9 [cPt, cPt, cI] [cPt, cI] (fun x => true) (fun x => (((TwR x.1.1 x.1.2.1 x.2.1.1 x.2.1.2.1 x.2.2.1).1.1, (TwR x.1.1 x.1.2.1 x.2.1.1 x.2.1.2.1 x.2.2.1).1.2, ()), (TwR x.1.1 x.1.2.1 x.2.1.1 x.2.1.2.1 x.2.2.1).2, ()))
theorem A7z : A7 Tryz.prog 62 A7y := B6 (Ad Ab B06 (fns_cons is_b8 (fns_cons is_b7 A2))) 3 (fun x => Atb x.1.1 x.1.2.1 x.2.1.1 x.2.1.2.1 x.2.2.1) (fun x => by kernel_rfl) fun x hok hw => Atc
theorem is_b9 : FnIs Tryz.prog (164, Tryz.f164) := ⟨Tryz.func164, by kernel_rfl, by kernel_rfl⟩
theorem Ty : FnIs Tryz.prog (164, Tryz.f164) := is_b9
def B92 : List (Nat × PureT) := [(116, Ul), (117, Uk)]
theorem B93 : By Tryz.prog B92 := A0 is_b3.plain Um (A0 is_b2.plain X0 Aa)
def Atd (px py r : Int) : Tree (TCTs [cI]) := bif !fpt px py then .leaf (2, ()) else bif !!Az r 1 65536 then .leaf (2, ()) else .leaf (0, ())
theorem Ate {px py r : Int} : (Atd px py r).sat (fun y => y = (Rv px py r, ())) := by
 unfold Atd Rv Iw
 cases fpt px py <;> cases Az r 1 65536 <;> exact Au rfl
theorem A3h : A7 Tryz.prog 164 Jb := B6 (Ad Ab B93 (fns_cons is_b9 A2)) 3 (fun x => Atd x.1.1.1 x.1.1.2.1 x.1.2.1) (fun x => by kernel_rfl) fun _ _ _ => Ate
end V
end Go.Proofs.YtkiaifmbbnnliaaGreat
