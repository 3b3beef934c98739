import Derived.Test.YtcfanlgpkefogaaGreatZe
import Derived.Test.YtcfanlgpkefogaaGreatMA
import Derived.Test.YtcfanlgpkefogaaGreatRows
namespace Go.Proofs.YtcfanlgpkefogaaGreat
open Go.RowKit V
theorem is_outside : FnIs Tryz.prog (66, Tryz.f66) := ⟨Tryz.func66, by kernel_rfl, by kernel_rfl⟩
theorem is_divide : FnIs Tryz.prog (69, Tryz.f69) := ⟨Tryz.func69, by kernel_rfl, by kernel_rfl⟩
theorem is_Divide : FnIs Tryz.prog (38, Tryz.f38) := ⟨Tryz.func38, by kernel_rfl, by kernel_rfl⟩
theorem is_Root : FnIs Tryz.prog (61, Tryz.f61) := ⟨Tryz.func61, by kernel_rfl, by kernel_rfl⟩
theorem is_root : FnIs Tryz.prog (67, Tryz.f67) := ⟨Tryz.func67, by kernel_rfl, by kernel_rfl⟩
theorem is_Len64 : FnIs Tryz.prog (110, Tryz.f110) := ⟨Tryz.func110, by kernel_rfl, by kernel_rfl⟩
theorem is_fits : FnIs Tryz.prog (65, Tryz.f65) := ⟨Tryz.func65, by kernel_rfl, by kernel_rfl⟩
theorem is_CheckDisc : FnIs Tryz.prog (155, Tryz.f155) := ⟨Tryz.func155, by kernel_rfl, by kernel_rfl⟩
theorem is_square : FnIs Tryz.prog (68, Tryz.f68) := ⟨Tryz.func68, by kernel_rfl, by kernel_rfl⟩
theorem is_Square : FnIs Tryz.prog (167, Tryz.f167) := ⟨Tryz.func167, by kernel_rfl, by kernel_rfl⟩
theorem is_Towards : FnIs Tryz.prog (23, Tryz.f23) := ⟨Tryz.func23, by kernel_rfl, by kernel_rfl⟩
theorem Bhf : FnIs Tryz.prog (43, Tryz.f43) := ⟨Tryz.func43, by kernel_rfl, by kernel_rfl⟩
namespace V
abbrev cPt : TC := .st [.i .i64, .i .i64]
abbrev Baf : TC := .st [cPt, .i .i64]
end V
abbrev Bh4 : PureT := Bbb [cI, cI, cI] [.b] (fun _ => true) (fun x => (Bb6 x.1 x.2.1 x.2.2.1, ()))
theorem Cdp {a b c : Int} : (bif decide (a < b) then .leaf (true, ()) else .leaf (decide (a > c), ()) : Tree (TCTs [.b])).sat (fun y => y = (Bb6 a b c, ())) := by
 refine Bb4 (fun h1 => ?_) (fun h1 => ?_) <;> (refine Bal ?_; unfold Bb6; rw [h1]; rfl)
theorem Btn : Bai Tryz.prog 66 Bh4 := Bbd (Bap Ban puOk_nil (fns_cons is_outside Fq)) 2 (fun x => bif decide (x.1 < x.2.1) then .leaf (true, ()) else .leaf (decide (x.1 > x.2.2.1), ())) (fun x => by kernel_rfl) fun _ _ _ => Cdp
theorem D4r : Bc7 Tryz.prog [(66, Bh4)] := puOk_cons is_outside.plain Btn puOk_nil
def Bto (n d : Int) : Tree (TCTs [.st [cI, cI]]) :=
 bif d != 0 then bif d != 0 then
      bif decide (IntKind.i64.wrap (2 * n.tmod d) ≥ d) then .leaf (((IntKind.i64.wrap (IntKind.i64.wrap (n.tdiv d) + 1)), (IntKind.i64.wrap (n.tmod d - d)), ()), ())
      else bif decide (IntKind.i64.wrap (2 * n.tmod d) < IntKind.i64.wrap (0 - d)) then .leaf (((IntKind.i64.wrap (IntKind.i64.wrap (n.tdiv d) - 1)), (IntKind.i64.wrap (n.tmod d + d)), ()), ())
      else .leaf (((IntKind.i64.wrap (n.tdiv d)), (n.tmod d), ()), ())
     else .fail else .fail
theorem C3d {n d : Int} (hok : Bih n d = true) : (Bto n d).sat (fun y => y = ((DW n d, DR n d, ()), ())) := by
 unfold Bto
 unfold Bih at hok
 obtain ⟨h1, h2, h3, h4⟩ := of_decide_eq_true hok
 have hd : (d != 0) = true := by simp; omega
 have ⟨k1, k2⟩ := Cax n d h3
 have ⟨k3, k4⟩ := D4i n d 1152921504606846976 h3 h1 h2
 rw [Bag (n := 2 * n.tmod d) (by omega) (by omega), Bag (n := n.tdiv d) (by omega) (by omega), Bag (n := n.tdiv d + 1) (by omega) (by omega), Bag (n := n.tdiv d - 1) (by omega) (by omega),
  Bag (n := n.tmod d - d) (by omega) (by omega), Bag (n := n.tmod d + d) (by omega) (by omega), Bag (n := 0 - d) (by omega) (by omega), hd]
 refine Bb4 (fun _ => Bb4 (fun _ => Bb4 (fun h5 => ?_) (fun h5 => Bb4 (fun h6 => ?_) (fun h6 => ?_))) (fun h => by simp at h)) (fun h => by simp at h)
 ·obtain ⟨e1, e2⟩ := D4j n d h3 (of_decide_eq_true h5)
  refine Bal ?_
  rw [e1, e2]
 ·obtain ⟨e1, e2⟩ := D4k n d h3 (by have := of_decide_eq_true h6; omega)
  refine Bal ?_
  rw [e1, e2]
 ·obtain ⟨e1, e2⟩ := Czy n d h3 (by have := of_decide_eq_false h5; omega) (by have := of_decide_eq_false h6; omega)
  refine Bal ?_
  rw [e1, e2]
abbrev Btp : PureT := Bbb [cI, cI] [.st [cI, cI]] (fun x => Bih x.1 x.2.1) (fun x => ((DW x.1 x.2.1, DR x.1 x.2.1, ()), ()))
theorem Cdq : Bai Tryz.prog 69 Btp := Bbd (Bap Ban puOk_nil (fns_cons is_divide Fq)) 2 (fun x => Bto x.1 x.2.1) (fun x => by kernel_rfl) fun x hok hw => C3d hok
theorem D4s : Bc7 Tryz.prog [(69, Btp), (66, Bh4)] := puOk_cons is_divide.plain Cdq D4r
namespace V
def D08 (n d : Int) : Tree (TCTs [.st [cI, cI], cI]) :=
 bif Bb6 n (-1152921504606846976) 1152921504606846976 then .leaf ((0, 0, ()), 3, ())
     else bif Bb6 d 1 1152921504606846976 then .leaf ((0, 0, ()), 3, ())
     else bif Bih n d then
      bif (DW n d == 0) && ((DR n d == 0) && true) then .leaf ((0, 0, ()), 0, ())
      else .leaf (((DW n d), (DR n d), ()), 0, ())
     else .fail
theorem Ctb {n d : Int} : (D08 n d).sat (fun y => y = ((DvW n d, DvR n d, ()), DvE n d, ())) := by
 unfold D08
 refine Bb4 (fun h1 => ?_) (fun h1 => Bb4 (fun h2 => ?_) (fun h2 => Bb4 (fun h3 => ?_) (fun h3 => ?_)))
 ·obtain ⟨e1, e2, e3⟩ := Csq n d h1
  refine Bal ?_
  rw [e1, e2, e3]
 ·obtain ⟨e1, e2, e3⟩ := Csr n d h2
  refine Bal ?_
  rw [e1, e2, e3]
 ·have ⟨k1, k2⟩ := Bdc h1
  have ⟨k3, k4⟩ := Bdc h2
  obtain ⟨e1, e2, e3⟩ := Clm n d k1 k2 k3 k4
  refine Bb4 (fun h4 => ?_) (fun h4 => ?_)
  ·simp at h4
   refine Bal ?_
   rw [e1, e2, e3, h4.1, h4.2]
  ·refine Bal ?_
   rw [e1, e2, e3]
 ·rw [Btg, h1, h2] at h3; simp at h3
abbrev C3e : PureT := Bbb [cI, cI] [.st [cI, cI], cI] (fun x => true) (fun x => ((DvW x.1 x.2.1, DvR x.1 x.2.1, ()), DvE x.1 x.2.1, ()))
theorem Clz : Bai Tryz.prog 38 C3e := Bbd (Bap Ban D4s (fns_cons is_Divide Fq)) 2 (fun x => D08 x.1 x.2.1) (fun x => by kernel_rfl) fun x hok hw => Ctb
end V
def tbB : ByteArray := ⟨((List.range 256).map fun i => UInt8.ofNat (if i = 0 then 0 else Nat.log2 i + 1)).toArray⟩
def Ctc (i : Nat) : Int := ((tbB.data.toList.getD i 0).toNat : Int)
theorem Ctd : ∀ i, i < 256 → (tbB.data.toList.getD i 0).toNat = bl i := by decide +kernel
theorem Cm0 (i : Nat) (h : i < 256) : Ctc i = bl i := by unfold Ctc; rw [Ctd i h]
attribute [irreducible] Ctc tbB
def Cm1 (n k : Int) : Int := n.fdiv (2 ^ min (Int.toNat k) IntKind.u64.bits)
def Cte (m s : Int) : Tree (TCTs [cI]) := bif decide (0 ≤ IntKind.u8.wrap m ∧ IntKind.u8.wrap m < 256) then .leaf (IntKind.i64.wrap (s + IntKind.i64.wrap (Ctc (IntKind.u8.wrap m).toNat)), ()) else .fail
def Ctf (m s : Int) : Tree (TCTs [cI]) := bif decide (m ≥ 256) then Cte (Cm1 m 8) (IntKind.i64.wrap (s + 8)) else Cte m s
def Bzf (m s : Int) : Tree (TCTs [cI]) := bif decide (m ≥ 65536) then Ctf (Cm1 m 16) (IntKind.i64.wrap (s + 16)) else Ctf m s
def D09 (n : Int) : Tree (TCTs [cI]) := bif decide (n ≥ 4294967296) then Bzf (Cm1 n 32) 32 else Bzf n 0
section
attribute [local irreducible] Tree.sat
theorem Btq (n k : Nat) (hk : k ≤ 64) : Cm1 (n : Int) (k : Int) = ((n / 2 ^ k : Nat) : Int) := by
 unfold Cm1
 have : min (Int.toNat (k : Int)) IntKind.u64.bits = k := by simp [IntKind.bits]; omega
 rw [this, Int.fdiv_eq_ediv_of_nonneg _ (by exact Int.le_of_lt (Int.pow_pos (by decide)))]
 simp
theorem Cdr (m : Nat) (h : m < 256) : IntKind.u8.wrap (m : Int) = m := by
 unfold IntKind.wrap; simp [IntKind.bits, IntKind.signed]; omega
theorem Cb2 {R : TCTs [cI] → Prop} (m s : Nat) (hm : m < 256) (hs : s ≤ 56) (h : R (((s + bl m : Nat) : Int), ())) : (Cte (m : Int) (s : Int)).sat R := by
 unfold Cte
 rw [Cdr m hm]
 have hb : bl m ≤ 8 := Bth m 8 (by omega)
 refine Bb4 (fun _ => ?_) (fun h => ?_)
 ·rw [Int.toNat_natCast, Cm0 m hm, Bag (n := (bl m : Int)) (by omega) (by omega), Bag (n := (s : Int) + (bl m : Int)) (by omega) (by omega)]
  refine Bal ?_
  rw [← Int.natCast_add]; exact h
 ·have := of_decide_eq_false h; omega
theorem Cb3 {R : TCTs [cI] → Prop} (m s : Nat) (hm : m < 65536) (hs : s ≤ 48) (h : R (((s + bl m : Nat) : Int), ())) : (Ctf (m : Int) (s : Int)).sat R := by
 unfold Ctf
 refine Bb4 (fun h1 => ?_) (fun h1 => ?_)
 ·have h2 := of_decide_eq_true h1
  rw [Bag (n := (s : Int) + 8) (by omega) (by omega)]
  have e1 := Btq m 8 (by omega)
  simp only [Int.cast_ofNat_Int] at e1
  rw [e1]
  have e2 : (s : Int) + 8 = ((s + 8 : Nat) : Int) := by simp
  rw [e2]
  refine Cb2 (m / 2 ^ 8) (s + 8) (by omega) (by omega) ?_
  have := C74 m 8 (by omega)
  rwa [show s + 8 + bl (m / 2 ^ 8) = s + bl m by omega]
 ·have h2 := of_decide_eq_false h1
  exact Cb2 m s (by omega) (by omega) h
theorem Cb4 {R : TCTs [cI] → Prop} (m s : Nat) (hm : m < 4294967296) (hs : s ≤ 32) (h : R (((s + bl m : Nat) : Int), ())) : (Bzf (m : Int) (s : Int)).sat R := by
 unfold Bzf
 refine Bb4 (fun h1 => ?_) (fun h1 => ?_)
 ·have h2 := of_decide_eq_true h1
  rw [Bag (n := (s : Int) + 16) (by omega) (by omega)]
  have e1 := Btq m 16 (by omega)
  simp only [Int.cast_ofNat_Int] at e1
  rw [e1]
  have e2 : (s : Int) + 16 = ((s + 16 : Nat) : Int) := by simp
  rw [e2]
  refine Cb3 (m / 2 ^ 16) (s + 16) (by omega) (by omega) ?_
  have := C74 m 16 (by omega)
  rwa [show s + 16 + bl (m / 2 ^ 16) = s + bl m by omega]
 ·have h2 := of_decide_eq_false h1
  exact Cb3 m s (by omega) (by omega) h
theorem Ctg {R : TCTs [cI] → Prop} (n : Int) (h0 : 0 ≤ n) (h1 : n ≤ 18446744073709551615) (h : R ((bl n.toNat : Int), ())) : (D09 n).sat R := by
 obtain ⟨m, rfl⟩ := Int.eq_ofNat_of_zero_le h0
 rw [Int.toNat_natCast] at h
 unfold D09
 refine Bb4 (fun h1 => ?_) (fun h1 => ?_)
 ·have h2 := of_decide_eq_true h1
  have e1 := Btq m 32 (by omega)
  simp only [Int.cast_ofNat_Int] at e1
  rw [e1]
  refine Cb4 (m / 2 ^ 32) 32 (by omega) (by omega) ?_
  have := C74 m 32 (by omega)
  rwa [show 32 + bl (m / 2 ^ 32) = bl m by omega]
 ·have h2 := of_decide_eq_false h1
  exact Cb4 m 0 (by omega) (by omega) (by rwa [Nat.zero_add])
end
abbrev Bzg : PureT := Bbb [.i .u64] [cI] (fun _ => true) (fun x => ((bl x.1.toNat : Int), ()))
theorem Cm2 : Bai Tryz.prog 110 Bzg := Bbd (Bap Ban puOk_nil (fns_cons is_Len64 Fq)) 2 (fun x => D09 x.1) (fun x => by kernel_rfl) fun x _ hw => Ctg x.1 hw.1.1 hw.1.2 rfl
theorem Cds : Bc7 Tryz.prog [(110, Bzg)] := puOk_cons is_Len64.plain Cm2 puOk_nil
noncomputable def Cb5 : Code := (Bak (bodyOf Tryz.f67)).getD 0 .skip
def Bkq : Lay := { keys := [0, 3], ks := [.d cI, .d cI], bs := [], n := 25, nx := 1000, marks := [] }
def Cth : Lay := { keys := [2], ks := [.d cI], bs := [], n := 25, nx := 1000, marks := [] }
def Bmz : XE → Lay := fun _ => Cth
def Blp (n x : Int) : Bkq.T := ((n, x, ()), ())
def Bzh (r : Int) : Fp Bmz := ⟨.ret, ((r, ()), ())⟩
def Brw (n x : Int) : Int := IntKind.i64.wrap ((IntKind.i64.wrap (x + IntKind.i64.wrap (n.tdiv x))).tdiv 2)
def Btr (n x : Int) : Tree (Bkq.T ⊕ Fp Bmz) := bif x != 0 then bif decide (Brw n x ≥ x) then .leaf (.inr (Bzh x)) else .leaf (.inl (Blp n (Brw n x))) else .fail
def Blq (g : Bkq.T) : Tree (Bkq.T ⊕ Fp Bmz) := Btr g.1.1 g.1.2.1
def Bzi (g : Bkq.T) : Nat := Int.toNat g.1.2.1 + 1
theorem D0a : Baz Tryz.prog 67 Cb5 (Bav Bkq Bmz (Bcn [.ret] Blq Bzi)) := Bbc (Bap Ban puOk_nil Fq) 1 _ Bkq Bmz (fun _ => Nat.le_refl _) [.ret] Blq Bzi (fun g => by kernel_rfl)
theorem Cb6 {n : Int} (h1 : 2 ≤ n) (h2 : n ≤ 4611686018427387904) : ∀ (k : Nat) (x : Int), 1 ≤ x → x ≤ 4294967296 → rt n ≤ x → x.toNat ≤ k → iter Blq (k + 1) (Blp n x) = some (Bzh (rt n))
 | 0, x, h3, _, _, hk => by omega
 | k + 1, x, h3, h4, h5, hk => by
  have hq := Int.ediv_nonneg (show 0 ≤ n by omega) (show 0 ≤ x by omega)
  have hq2 := Int.ediv_le_self x (show 0 ≤ n by omega)
  have e1 : Brw n x = (x + n / x) / 2 := by
   unfold Brw
   rw [Int.tdiv_eq_ediv_of_nonneg (show 0 ≤ n by omega), Bag (n := n / x) (by omega) (by omega), Bag (n := x + n / x) (by omega) (by omega), Int.tdiv_eq_ediv_of_nonneg (by omega), Bag (by omega) (by omega)]
  have hge := Cdi n x (by omega) h3
  have hx0 : (x != 0) = true := by simp; omega
  have hs : Blq (Blp n x) = bif decide ((x + n / x) / 2 ≥ x) then .leaf (.inr (Bzh x)) else .leaf (.inl (Blp n ((x + n / x) / 2))) := by
   show Btr n x = _
   unfold Btr
   rw [hx0, e1]
   rfl
  cases hd : decide ((x + n / x) / 2 ≥ x) with
  | true =>
   have h7 := of_decide_eq_true hd
   have hx := C75 n x (by omega) h3 h5 (by omega)
   rw [← hx]
   exact Bho (by rw [hs, hd]; rfl)
  | false =>
   have h7 := of_decide_eq_false hd
   have hr := (Bg5 n (by omega)).1
   have hpos : 1 ≤ (x + n / x) / 2 := by
    have : 1 ≤ rt n := by
     have hc := (Bg5 n (by omega)).2.2
     rcases Int.lt_or_le (rt n) 1 with k | k
     ·have : rt n = 0 := by omega
      rw [this] at hc; omega
     ·exact k
    omega
   rw [Bs4 (g' := Blp n ((x + n / x) / 2)) (by rw [hs, hd]; rfl)]
   exact Cb6 h1 h2 k _ hpos (by omega) hge (by omega)
theorem Cm3 (n : Int) (h0 : 0 ≤ n) (h : n < 2) : rt n = n := Cdh n n h0 (by rcases (show n = 0 ∨ n = 1 by omega) with rfl | rfl <;> decide) (by rcases (show n = 0 ∨ n = 1 by omega) with rfl | rfl <;> decide)
def Cdt (n : Int) : Bool := decide (0 ≤ n ∧ n ≤ 4611686018427387904)
def RtV (n : Int) : Int := if Cdt n then rt n else 0
def RtE (n : Int) : Int := if Cdt n then 0 else 3
abbrev C7c : PureT := Bbb [cI] [cI] (fun x => decide (0 ≤ x.1 ∧ x.1 ≤ 4611686018427387904)) (fun x => (rt x.1, ()))
noncomputable def D0b : Ctx := Bgo Tryz.prog [(110, Bzg)] [(67, Tryz.f67)] [((67, V.keyOf Cb5), Bav Bkq Bmz (Bcn [.ret] Blq Bzi))]
theorem Cdu : CtxOk D0b := Bc8 Ban Cds (fns_cons is_root Fq) (Bbt rfl (by kernel_rfl) D0a)
def Bzj (n : Int) : Int := IntKind.i64.wrap (1 * 2 ^ min (IntKind.i64.wrap ((IntKind.i64.wrap ((bl (IntKind.u64.wrap n).toNat : Int) + 1)).tdiv 2)).toNat IntKind.i64.bits)
def C7d (n : Int) : Option (Fp Bmz) := iter Blq (Int.toNat (Bzj n) + 1) (Blp n (Bzj n))
def C7e (n : Int) : Tree (TCTs [cI]) := bif decide (n < 2) then .leaf (n, ()) else bif decide (0 ≤ IntKind.i64.wrap ((IntKind.i64.wrap ((bl (IntKind.u64.wrap n).toNat : Int) + 1)).tdiv 2)) then bif isE .ret (C7d n) then .leaf ((Bc4 .ret (C7d n)).1.1, ()) else .fail else .fail
theorem Cdv {n : Int} (h0 : 0 ≤ n) (h1 : n ≤ 4611686018427387904) : (C7e n).sat (fun y => y = (rt n, ())) := by
 unfold C7e C7d Bzj
 have hwr : IntKind.u64.wrap n = n := by unfold IntKind.wrap; simp [IntKind.bits, IntKind.signed]; omega
 have hb : bl n.toNat ≤ 63 := Bth _ 63 (by omega)
 rw [hwr, Bag (n := (bl n.toNat : Int) + 1) (by omega) (by omega), Int.tdiv_eq_ediv_of_nonneg (by omega), Bag (n := ((bl n.toNat : Int) + 1) / 2) (by omega) (by omega)]
 refine Bb4 (fun h2 => ?_) (fun h2 => Bb4 (fun h3 => ?_) (fun h3 => ?_))
 ·have := of_decide_eq_true h2
  refine Bal ?_
  rw [Cm3 n h0 this]
 ·have h5 := of_decide_eq_false h2
  have e2 : min (((bl n.toNat : Int) + 1) / 2).toNat IntKind.i64.bits = (bl n.toNat + 1) / 2 := by simp [IntKind.bits]; omega
  rw [e2, Int.one_mul]
  have hs := Bza n h0
  have hk : (bl n.toNat + 1) / 2 ≤ 32 := by omega
  have hp1 : (1 : Int) ≤ 2 ^ ((bl n.toNat + 1) / 2) := Int.pow_pos (by decide)
  have hp2 : (2 : Int) ^ ((bl n.toNat + 1) / 2) ≤ 4294967296 := by
   have : 2 ^ ((bl n.toNat + 1) / 2) ≤ 2 ^ 32 := Nat.pow_le_pow_right (by decide) hk
   have h6 : ((2 ^ ((bl n.toNat + 1) / 2) : Nat) : Int) ≤ ((2 ^ 32 : Nat) : Int) := by exact_mod_cast this
   rw [Int.natCast_pow] at h6
   simpa using h6
  generalize (2 : Int) ^ ((bl n.toNat + 1) / 2) = y at hs hp1 hp2
  rw [Bag (by omega) (by omega)]
  have hr := Cw5 n y h0 (by omega) hs
  rw [Cb6 (by omega) h1 y.toNat y hp1 hp2 hr (Nat.le_refl _)]
  exact Bal rfl
 ·have := of_decide_eq_false h3; omega
theorem Cb7 : Bai Tryz.prog 67 C7c := Bbd Cdu 3 (fun x => C7e x.1) (fun x => by kernel_rfl) fun x hok _ => Cdv (of_decide_eq_true hok).1 (of_decide_eq_true hok).2
theorem Cm4 : Bc7 Tryz.prog [(67, C7c), (66, Bh4)] := puOk_cons is_root.plain Cb7 D4r
namespace V
def C7f (n : Int) : Tree (TCTs [cI, cI]) :=
 bif Bb6 n 0 4611686018427387904 then .leaf (0, 3, ()) else bif decide (0 ≤ n ∧ n ≤ 4611686018427387904) then .leaf ((rt n), 0, ()) else .fail
theorem Cdw {n : Int} : (C7f n).sat (fun y => y = (RtV n, RtE n, ())) := by
 unfold C7f
 refine Bb4 (fun h1 => ?_) (fun h1 => Bb4 (fun h2 => ?_) (fun h2 => ?_))
 ·have : Cdt n = false := by
   unfold Bb6 at h1; unfold Cdt
   simp at h1
   exact decide_eq_false (by omega)
  refine Bal ?_
  unfold RtV RtE; rw [this]; rfl
 ·have : Cdt n = true := h2
  refine Bal ?_
  unfold RtV RtE; rw [this]; rfl
 ·have := Bdc h1
  have := of_decide_eq_false h2; omega
abbrev Cm5 : PureT := Bbb [cI] [cI, cI] (fun x => true) (fun x => (RtV x.1, RtE x.1, ()))
theorem D0c : Bai Tryz.prog 61 Cm5 := Bbd (Bap Ban Cm4 (fns_cons is_Root Fq)) 2 (fun x => C7f x.1) (fun x => by kernel_rfl) fun x hok hw => Cdw
end V
theorem Bxa {x lo hi : Int} (h : Bb6 x lo hi = false) : lo ≤ x ∧ x ≤ hi := by
 unfold Bb6 at h
 simp only [Bool.or_eq_false_iff, decide_eq_false_iff_not] at h
 omega
def Bpt (x y : Int) : Bool := decide (max (max (max x (IntKind.i64.wrap (0 - x))) y) (IntKind.i64.wrap (0 - y)) > 4194304)
def Bpu (x y : Int) : Bool := decide (min x y < -4194304)
def fpt (x y : Int) : Bool := decide (-4194304 ≤ x ∧ x ≤ 4194304 ∧ -4194304 ≤ y ∧ y ≤ 4194304)
theorem C3f (x : Int) (h1 : -9223372036854775808 ≤ x) (h2 : x ≤ 9223372036854775807) : IntKind.i64.wrap (0 - x) = if x = -9223372036854775808 then x else -x := by
 split
 ·rename_i h; subst h; rfl
 ·rw [Bag (by omega) (by omega)]; omega
theorem Cm6 {x y : Int} (hx : inK .i64 x) (hy : inK .i64 y) (h : Bpt x y = true) : fpt x y = false := by
 simp only [inK, Bgd, Bb2] at hx hy
 unfold Bpt at h; unfold fpt
 have h1 := of_decide_eq_true h
 rw [C3f x (by omega) (by omega), C3f y (by omega) (by omega)] at h1
 refine decide_eq_false ?_
 split at h1 <;> split at h1 <;> omega
theorem Cm7 {x y : Int} (h : Bpu x y = true) : fpt x y = false := by
 unfold Bpu at h; unfold fpt
 have h1 := of_decide_eq_true h
 refine decide_eq_false ?_
 omega
theorem D0d {x y : Int} (h : Bpt x y = false) (k : Bpu x y = false) : fpt x y = true := by
 unfold Bpt at h; unfold Bpu at k; unfold fpt
 have h1 := of_decide_eq_false h
 have k1 := of_decide_eq_false k
 refine decide_eq_true ?_
 omega
theorem Bgl {x y : Int} (h : fpt x y = true) : -4194304 ≤ x ∧ x ≤ 4194304 ∧ -4194304 ≤ y ∧ y ≤ 4194304 := of_decide_eq_true h
theorem Bg6 {α : Type} {R : α → Prop} {x y : Int} {t u : Tree α} (hx : inK .i64 x) (hy : inK .i64 y) (h1 : fpt x y = false → t.sat R) (h2 : fpt x y = true → u.sat R) : (bif Bpt x y then t else bif Bpu x y then t else u).sat R :=
 Bb4 (fun h => h1 (Cm6 hx hy h)) (fun h => Bb4 (fun k => h1 (Cm7 k)) (fun k => h2 (D0d h k)))
def Bfr (x y : Int) : Int := bif fpt x y then 0 else 2
def Bii (x y r : Int) : Bool := fpt x y && !Bb6 r 1 65536
def Bts (x y r : Int) : Int := bif Bii x y r then 0 else 2
namespace V
def Cm8 (ax ay : Int) : Tree (TCTs [cI]) :=
 bif Bpt ax ay then .leaf (2, ()) else bif Bpu ax ay then .leaf (2, ()) else .leaf (0, ())
theorem Cm9 {ax ay : Int} (a1 : inK .i64 ax) (a2 : inK .i64 ay) : (Cm8 ax ay).sat (fun y => y = (Bfr ax ay, ())) := by
 unfold Cm8
 refine Bg6 a1 a2 (fun k => ?_) (fun k => ?_) <;> (refine Bal ?_; unfold Bfr; rw [k]; rfl)
abbrev Bhz : PureT := Bbb [cPt] [cI] (fun x => true) (fun x => (Bfr x.1.1 x.1.2.1, ()))
theorem Bjg : Bai Tryz.prog 43 Bhz := Bbd (Bap Ban puOk_nil (fns_cons Bhf (fns_cons is_fits Fq))) 3 (fun x => Cm8 x.1.1 x.1.2.1) (fun x => by kernel_rfl) fun x hok hw => Cm9 hw.1.1 hw.1.2.1
def Cma (px py r : Int) : Tree (TCTs [cI]) :=
 bif Bpt px py then .leaf (2, ()) else bif Bpu px py then .leaf (2, ()) else
    bif decide (r < 1) then .leaf (2, ()) else bif decide (r > 65536) then .leaf (2, ()) else .leaf (0, ())
theorem Cmb {px py r : Int} (a1 : inK .i64 px) (a2 : inK .i64 py) : (Cma px py r).sat (fun y => y = (Bts px py r, ())) := by
 unfold Cma
 refine Bg6 a1 a2 (fun k => ?_) (fun k1 => Bb4 (fun k => ?_) (fun k2 => Bb4 (fun k => ?_) (fun k3 => ?_)))
 ·refine Bal ?_
  unfold Bts Bii; rw [k]; rfl
 ·refine Bal ?_
  unfold Bts Bii Bb6; rw [k1, k]; rfl
 ·have k' : decide (65536 < r) = true := k
  refine Bal ?_
  unfold Bts Bii Bb6; rw [k1, k2, k']; rfl
 ·have k' : decide (65536 < r) = false := k3
  refine Bal ?_
  unfold Bts Bii Bb6; rw [k1, k2, k']; rfl
abbrev Bqr : PureT := Bbb [Baf] [cI] (fun x => true) (fun x => (Bts x.1.1.1 x.1.1.2.1 x.1.2.1, ()))
theorem Bqs : Bai Tryz.prog 155 Bqr := Bbd (Bap Ban puOk_nil (fns_cons is_CheckDisc (fns_cons is_fits Fq))) 3 (fun x => Cma x.1.1.1 x.1.1.2.1 x.1.2.1) (fun x => by kernel_rfl) fun x hok hw => Cmb hw.1.1.1 hw.1.1.2.1
end V
def Cmc (ax ay bx bY : Int) : Tree (TCTs [cI]) :=
 .leaf ((IntKind.i64.wrap (IntKind.i64.wrap (IntKind.i64.wrap (bx - ax) * IntKind.i64.wrap (bx - ax)) + IntKind.i64.wrap (IntKind.i64.wrap (bY - ay) * IntKind.i64.wrap (bY - ay)))), ())
theorem Cmd {ax ay bx bY : Int} (hok : (fpt ax ay && fpt bx bY) = true) : (Cmc ax ay bx bY).sat (fun y => y = (sq ax ay bx bY, ())) := by
 unfold Cmc
 rw [Bool.and_eq_true] at hok
 have c1 := Bgl hok.1
 have c2 := Bgl hok.2
 have b1 := Bc2 (a := bx - ax) (b := bx - ax) (A := 8388608) (B := 8388608) (by omega) (by omega) (by omega) (by omega)
 have b2 := Bc2 (a := bY - ay) (b := bY - ay) (A := 8388608) (B := 8388608) (by omega) (by omega) (by omega) (by omega)
 rw [Bag (n := bx - ax) (by omega) (by omega), Bag (n := bY - ay) (by omega) (by omega), Bag (n := (bx - ax) * (bx - ax)) (by omega) (by omega), Bag (n := (bY - ay) * (bY - ay)) (by omega) (by omega), Bag (n := (bx - ax) * (bx - ax) + (bY - ay) * (bY - ay)) (by omega) (by omega)]
 refine Bal ?_
 unfold sq; rfl
abbrev Btt : PureT := Bbb [cPt, cPt] [cI] (fun x => fpt x.1.1 x.1.2.1 && fpt x.2.1.1 x.2.1.2.1) (fun x => (sq x.1.1 x.1.2.1 x.2.1.1 x.2.1.2.1, ()))
theorem Bxb : Bai Tryz.prog 68 Btt := Bbd (Bap Ban puOk_nil (fns_cons is_square Fq)) 2 (fun x => Cmc x.1.1 x.1.2.1 x.2.1.1 x.2.1.2.1) (fun x => by kernel_rfl) fun x hok hw => Cmd hok
def D0e : List (Nat × PureT) := [(68, Btt), (67, C7c), (69, Btp), (66, Bh4)]
theorem Cme : Bc7 Tryz.prog D0e := puOk_cons is_square.plain Bxb (puOk_cons is_root.plain Cb7 D4s)
def SqR (ax ay bx bY : Int) : Int × Int := bif fpt ax ay && fpt bx bY then (sq ax ay bx bY, 0) else (0, 2)
namespace V
def Cmf (ax ay bx bY : Int) : Tree (TCTs [cI, cI]) :=
 bif Bpt ax ay then .leaf (0, 2, ()) else bif Bpu ax ay then .leaf (0, 2, ()) else
    bif Bpt bx bY then .leaf (0, 2, ()) else bif Bpu bx bY then .leaf (0, 2, ()) else
    bif fpt ax ay && fpt bx bY then .leaf ((sq ax ay bx bY), 0, ()) else .fail
theorem Cmg {ax ay bx bY : Int} (a1 : inK .i64 ax) (a2 : inK .i64 ay) (a3 : inK .i64 bx) (a4 : inK .i64 bY) : (Cmf ax ay bx bY).sat (fun y => y = ((SqR ax ay bx bY).1, (SqR ax ay bx bY).2, ())) := by
 unfold Cmf
 refine Bg6 a1 a2 (fun k => ?_) (fun k1 => Bg6 a3 a4 (fun k => ?_) (fun k2 => ?_))
 ·refine Bal ?_
  unfold SqR; rw [k]; rfl
 ·refine Bal ?_
  unfold SqR; rw [k1, k]; rfl
 ·rw [k1, k2]
  refine Bal ?_
  unfold SqR; rw [k1, k2]; rfl
abbrev Cmh : PureT := Bbb [cPt, cPt] [cI, cI] (fun x => true) (fun x => ((SqR x.1.1 x.1.2.1 x.2.1.1 x.2.1.2.1).1, (SqR x.1.1 x.1.2.1 x.2.1.1 x.2.1.2.1).2, ()))
theorem Cmi : Bai Tryz.prog 167 Cmh := Bbd (Bap Ban Cme (fns_cons is_Square (fns_cons is_fits Fq))) 3 (fun x => Cmf x.1.1 x.1.2.1 x.2.1.1 x.2.1.2.1) (fun x => by kernel_rfl) fun x hok hw => Cmg hw.1.1 hw.1.2.1 hw.2.1.1 hw.2.1.2.1
end V
def ToX (px qx d l : Int) : Int := qx + DW (64 * l * (px - qx)) d
def dTo (px py qx qy : Int) : Int := rt (sq px py qx qy * 4096)
def TwR (px py qx qy l : Int) : (Int × Int) × Int :=
 bif fpt px py && fpt qx qy then bif Bb6 l 0 4194304 then ((0, 0), 3) else bif px == qx && py == qy then ((0, 0), 9) else
  bif fpt (ToX px qx (dTo px py qx qy) l) (ToX py qy (dTo px py qx qy) l) then ((ToX px qx (dTo px py qx qy) l, ToX py qy (dTo px py qx qy) l), 0) else ((0, 0), 4)
 else ((0, 0), 2)
theorem Cb8 {px py qx qy : Int} (h : fpt px py = true) (k : fpt qx qy = true) : 0 ≤ sq px py qx qy ∧ sq px py qx qy ≤ 140737488355328 := by
 have c1 := Bgl h
 have c2 := Bgl k
 have b1 := Bc2 (a := qx - px) (b := qx - px) (A := 8388608) (B := 8388608) (by omega) (by omega) (by omega) (by omega)
 have b2 := Bc2 (a := qy - py) (b := qy - py) (A := 8388608) (B := 8388608) (by omega) (by omega) (by omega) (by omega)
 have b3 := Bgy (qx - px)
 have b4 := Bgy (qy - py)
 unfold sq; omega
theorem Cmj {px py qx qy : Int} (h : fpt px py = true) (k : fpt qx qy = true) (hne : ¬ (px = qx ∧ py = qy)) : 1 ≤ dTo px py qx qy ∧ dTo px py qx qy ≤ 576460752303423488 := by
 have h1 := Cb8 h k
 have h2 := Czz hne
 obtain ⟨r1, r2, r3⟩ := Bg5 (sq px py qx qy * 4096) (by omega)
 unfold dTo
 generalize rt (sq px py qx qy * 4096) = d at r1 r2 r3
 have hd : 1 ≤ d := by
  rcases Int.lt_or_le d 1 with x | x
  ·have : d = 0 := by omega
   subst this
   omega
  ·exact x
 have := Int.mul_le_mul_of_nonneg_left hd (show 0 ≤ d by omega)
 omega
namespace V
def D0f (px py qx qy l : Int) : Tree (TCTs [cPt, cI]) :=
 let d := rt (IntKind.i64.wrap (sq px py qx qy * 4096))
    let ux := IntKind.i64.wrap (IntKind.i64.wrap (64 * l) * IntKind.i64.wrap (px - qx))
    let uy := IntKind.i64.wrap (IntKind.i64.wrap (64 * l) * IntKind.i64.wrap (py - qy))
    bif Bpt px py then .leaf ((0, 0, ()), 2, ()) else bif Bpu px py then .leaf ((0, 0, ()), 2, ()) else
    bif Bpt qx qy then .leaf ((0, 0, ()), 2, ()) else bif Bpu qx qy then .leaf ((0, 0, ()), 2, ()) else
    bif Bb6 l 0 4194304 then .leaf ((0, 0, ()), 3, ()) else
    bif px == qx && (py == qy && true) then .leaf ((0, 0, ()), 9, ()) else
    bif fpt px py && fpt qx qy then bif decide (0 ≤ IntKind.i64.wrap (sq px py qx qy * 4096) ∧ IntKind.i64.wrap (sq px py qx qy * 4096) ≤ 4611686018427387904) then
    bif Bih ux d then bif Bih uy d then
    bif Bpt (IntKind.i64.wrap (qx + DW ux d)) (IntKind.i64.wrap (qy + DW uy d)) then .leaf ((0, 0, ()), 4, ()) else bif Bpu (IntKind.i64.wrap (qx + DW ux d)) (IntKind.i64.wrap (qy + DW uy d)) then .leaf ((0, 0, ()), 4, ()) else
     .leaf (((IntKind.i64.wrap (qx + DW ux d)), (IntKind.i64.wrap (qy + DW uy d)), ()), 0, ())
    else .fail else .fail else .fail else .fail
theorem Cti {px py qx qy l : Int} (a1 : inK .i64 px) (a2 : inK .i64 py) (a3 : inK .i64 qx) (a4 : inK .i64 qy) : (D0f px py qx qy l).sat (fun y => y = (((TwR px py qx qy l).1.1, (TwR px py qx qy l).1.2, ()), (TwR px py qx qy l).2, ())) := by
 unfold D0f
 dsimp only
 refine Bg6 a1 a2 (fun k => ?_) (fun k1 => Bg6 a3 a4 (fun k => ?_) (fun k2 => Bb4 (fun k => ?_) (fun k3 => Bb4 (fun k => ?_) (fun k4 => ?_))))
 ·refine Bal ?_
  unfold TwR; rw [k]; rfl
 ·refine Bal ?_
  unfold TwR; rw [k1, k]; rfl
 ·refine Bal ?_
  unfold TwR; rw [k1, k2, k]; rfl
 ·refine Bal ?_
  rw [Bool.and_true] at k
  unfold TwR; rw [k1, k2, k3, k]; rfl
 ·have c1 := Bgl k1
  have c2 := Bgl k2
  have c3 := Bxa k3
  rw [Bool.and_true] at k4
  have hne : ¬ (px = qx ∧ py = qy) := by
   intro hh; simp [hh.1, hh.2] at k4
  have s1 := Cb8 k1 k2
  have hd := Cmj k1 k2 hne
  have b1 := Bc2 (a := 64 * l) (b := px - qx) (A := 268435456) (B := 8388608) (by omega) (by omega) (by omega) (by omega)
  have b2 := Bc2 (a := 64 * l) (b := py - qy) (A := 268435456) (B := 8388608) (by omega) (by omega) (by omega) (by omega)
  rw [Bag (n := sq px py qx qy * 4096) (by omega) (by omega), Bag (n := 64 * l) (by omega) (by omega), Bag (n := px - qx) (by omega) (by omega), Bag (n := py - qy) (by omega) (by omega), Bag (n := 64 * l * (px - qx)) (by omega) (by omega), Bag (n := 64 * l * (py - qy)) (by omega) (by omega)]
  have hdd : rt (sq px py qx qy * 4096) = dTo px py qx qy := rfl
  rw [hdd]
  have w1 := Cay (64 * l * (px - qx)) (dTo px py qx qy) 2251799813685248 hd.1 (by omega) (by omega) (by omega)
  have w2 := Cay (64 * l * (py - qy)) (dTo px py qx qy) 2251799813685248 hd.1 (by omega) (by omega) (by omega)
  rw [Bag (n := qx + DW (64 * l * (px - qx)) (dTo px py qx qy)) (by omega) (by omega), Bag (n := qy + DW (64 * l * (py - qy)) (dTo px py qx qy)) (by omega) (by omega)]
  have v1 : Bih (64 * l * (px - qx)) (dTo px py qx qy) = true := by unfold Bih; exact decide_eq_true (by omega)
  have v2 : Bih (64 * l * (py - qy)) (dTo px py qx qy) = true := by unfold Bih; exact decide_eq_true (by omega)
  rw [k1, k2, v1, v2]
  have v3 : decide (0 ≤ sq px py qx qy * 4096 ∧ sq px py qx qy * 4096 ≤ 4611686018427387904) = true := decide_eq_true (by omega)
  rw [v3]
  have hT : TwR px py qx qy l = bif fpt (ToX px qx (dTo px py qx qy) l) (ToX py qy (dTo px py qx qy) l) then ((ToX px qx (dTo px py qx qy) l, ToX py qy (dTo px py qx qy) l), 0) else ((0, 0), 4) := by
   unfold TwR; rw [k1, k2, k3, k4]; rfl
  rw [hT]
  simp only [cond_true, Bool.and_self]
  refine Bg6 ?_ ?_ (fun k => ?_) (fun k => ?_)
  ·simp only [inK, Bgd, Bb2]; omega
  ·simp only [inK, Bgd, Bb2]; omega
  ·have k' : fpt (ToX px qx (dTo px py qx qy) l) (ToX py qy (dTo px py qx qy) l) = false := k
   rw [k']; exact Bal rfl
  ·have k' : fpt (ToX px qx (dTo px py qx qy) l) (ToX py qy (dTo px py qx qy) l) = true := k
   rw [k']; exact Bal rfl
abbrev C7g : PureT := Bbb [cPt, cPt, cI] [cPt, cI] (fun x => true) (fun x => (((TwR x.1.1 x.1.2.1 x.2.1.1 x.2.1.2.1 x.2.2.1).1.1, (TwR x.1.1 x.1.2.1 x.2.1.1 x.2.1.2.1 x.2.2.1).1.2, ()), (TwR x.1.1 x.1.2.1 x.2.1.1 x.2.1.2.1 x.2.2.1).2, ()))
theorem C7h : Bai Tryz.prog 23 C7g := Bbd (Bap Ban Cme (fns_cons is_Towards (fns_cons is_fits Fq))) 3 (fun x => D0f x.1.1 x.1.2.1 x.2.1.1 x.2.1.2.1 x.2.2.1) (fun x => by kernel_rfl) fun x hok hw => Cti hw.1.1 hw.1.2.1 hw.2.1.1 hw.2.1.2.1
end V
def D0g (a b c : Int) : Tree (TCTs [.b]) :=
 bif decide (a ≥ b) then .leaf ((decide (a ≤ c)), ()) else .leaf (false, ())
theorem Ctj {a b c : Int} : (D0g a b c).sat (fun y => y = (!Bb6 a b c, ())) := by
 unfold D0g
 refine Bb4 (fun h1 => ?_) (fun h1 => ?_)
 ·have h2 := of_decide_eq_true h1
  refine Bal ?_
  congr 1
  unfold Bb6
  rw [Bool.eq_iff_iff]
  simp only [decide_eq_true_eq, Bool.not_eq_true', Bool.or_eq_false_iff, decide_eq_false_iff_not]
  omega
 ·have h2 := of_decide_eq_false h1
  refine Bal ?_
  congr 1
  have : Bb6 a b c = true := by unfold Bb6; simp; omega
  rw [this]; rfl
abbrev Cb9 : PureT := Bbb [cI, cI, cI] [.b] (fun x => true) (fun x => (!Bb6 x.1 x.2.1 x.2.2.1, ()))
theorem Ctk (x y : Int) : fpt x y = (!Bb6 x (-4194304) 4194304 && !Bb6 y (-4194304) 4194304) := by
 unfold fpt Bb6
 rw [Bool.eq_iff_iff]
 simp only [decide_eq_true_eq, Bool.and_eq_true, Bool.not_eq_true', Bool.or_eq_false_iff, decide_eq_false_iff_not]
 omega
namespace V
def D0j (x y : Int) : Tree (TCTs [.b]) :=
 bif !Bb6 x (-4194304) 4194304 then .leaf ((!Bb6 y (-4194304) 4194304), ()) else .leaf (false, ())
theorem Ctl {x y : Int} : (D0j x y).sat (fun z => z = (fpt x y, ())) := by
 unfold D0j
 rw [Ctk]
 refine Bb4 (fun h1 => ?_) (fun h1 => ?_) <;> (refine Bal ?_; rw [h1]; rfl)
abbrev Cba : PureT := Bbb [cPt] [.b] (fun x => true) (fun x => (fpt x.1.1 x.1.2.1, ()))
end V
namespace V
end V
namespace V
end V
end Go.Proofs.YtcfanlgpkefogaaGreat
