import Derived.Test.YtkiaifmbbnnliaaGreatZb
import Derived.Test.YtkiaifmbbnnliaaGreatMA
import Derived.Test.YtkiaifmbbnnliaaGreatRows
namespace Go.Proofs.YtkiaifmbbnnliaaGreat
open Go.RowKit V
theorem is_outside : FnIs Tryz.prog (109, Tryz.f109) := ⟨Tryz.func109, by kernel_rfl, by kernel_rfl⟩
theorem is_divide : FnIs Tryz.prog (112, Tryz.f112) := ⟨Tryz.func112, by kernel_rfl, by kernel_rfl⟩
theorem is_Divide : FnIs Tryz.prog (206, Tryz.f206) := ⟨Tryz.func206, by kernel_rfl, by kernel_rfl⟩
theorem is_Root : FnIs Tryz.prog (185, Tryz.f185) := ⟨Tryz.func185, by kernel_rfl, by kernel_rfl⟩
theorem is_root : FnIs Tryz.prog (110, Tryz.f110) := ⟨Tryz.func110, by kernel_rfl, by kernel_rfl⟩
theorem is_Len64 : FnIs Tryz.prog (150, Tryz.f150) := ⟨Tryz.func150, by kernel_rfl, by kernel_rfl⟩
theorem is_fits : FnIs Tryz.prog (102, Tryz.f102) := ⟨Tryz.func102, by kernel_rfl, by kernel_rfl⟩
theorem is_CheckDisc : FnIs Tryz.prog (188, Tryz.f188) := ⟨Tryz.func188, by kernel_rfl, by kernel_rfl⟩
theorem is_square : FnIs Tryz.prog (111, Tryz.f111) := ⟨Tryz.func111, by kernel_rfl, by kernel_rfl⟩
theorem is_Square : FnIs Tryz.prog (201, Tryz.f201) := ⟨Tryz.func201, by kernel_rfl, by kernel_rfl⟩
theorem is_Towards : FnIs Tryz.prog (56, Tryz.f56) := ⟨Tryz.func56, by kernel_rfl, by kernel_rfl⟩
theorem is_Among : FnIs Tryz.prog (117, Tryz.f117) := ⟨Tryz.func117, by kernel_rfl, by kernel_rfl⟩
theorem is_Valid : FnIs Tryz.prog (116, Tryz.f116) := ⟨Tryz.func116, by kernel_rfl, by kernel_rfl⟩
theorem u_is_Check : FnIs Tryz.prog (50, Tryz.f50) := ⟨Tryz.func50, by kernel_rfl, by kernel_rfl⟩
namespace V
abbrev cPt : TC := .st [.i .i64, .i .i64]
abbrev cDisc : TC := .st [cPt, .i .i64]
end V
abbrev v_outside : PureT := spec [cI, cI, cI] [.b] (fun _ => true) (fun x => (outB x.1 x.2.1 x.2.2.1, ()))
theorem k_outside {a b c : Int} : (bif decide (a < b) then .leaf (true, ()) else .leaf (decide (a > c), ()) : Tree (TCTs [.b])).sat (fun y => y = (outB a b c, ())) := by
  refine sat_cond (fun h1 => ?_) (fun h1 => ?_) <;> (refine sat_leaf ?_; unfold outB; rw [h1]; rfl)
theorem vq_outside : PureOk Tryz.prog 109 v_outside := q_by (ctx_ok mixed puOk_nil (fns_cons is_outside fns_nil)) 2 (fun x => bif decide (x.1 < x.2.1) then .leaf (true, ()) else .leaf (decide (x.1 > x.2.2.1), ())) (fun x => by kernel_rfl) fun _ _ _ => k_outside
theorem vpu1 : PuOk Tryz.prog [(109, v_outside)] := puOk_cons is_outside.plain vq_outside puOk_nil
def T_divide (n d : Int) : Tree (TCTs [.st [cI, cI]]) :=
  bif d != 0 then bif d != 0 then
            bif decide (IntKind.i64.wrap (2 * n.tmod d) ≥ d) then .leaf (((IntKind.i64.wrap (IntKind.i64.wrap (n.tdiv d) + 1)), (IntKind.i64.wrap (n.tmod d - d)), ()), ())
            else bif decide (IntKind.i64.wrap (2 * n.tmod d) < IntKind.i64.wrap (0 - d)) then .leaf (((IntKind.i64.wrap (IntKind.i64.wrap (n.tdiv d) - 1)), (IntKind.i64.wrap (n.tmod d + d)), ()), ())
            else .leaf (((IntKind.i64.wrap (n.tdiv d)), (n.tmod d), ()), ())
          else .fail else .fail
theorem T_divide_ok {n d : Int} (hok : dvOk n d = true) : (T_divide n d).sat (fun y => y = ((DW n d, DR n d, ()), ())) := by
  unfold T_divide
  unfold dvOk at hok
  obtain ⟨h1, h2, h3, h4⟩ := of_decide_eq_true hok
  have hd : (d != 0) = true := by simp; omega
  have ⟨k1, k2⟩ := tm_bd n d h3
  have ⟨k3, k4⟩ := td_bd n d 1152921504606846976 h3 h1 h2
  rw [wrap_id (n := 2 * n.tmod d) (by omega) (by omega), wrap_id (n := n.tdiv d) (by omega) (by omega), wrap_id (n := n.tdiv d + 1) (by omega) (by omega), wrap_id (n := n.tdiv d - 1) (by omega) (by omega),
    wrap_id (n := n.tmod d - d) (by omega) (by omega), wrap_id (n := n.tmod d + d) (by omega) (by omega), wrap_id (n := 0 - d) (by omega) (by omega), hd]
  refine sat_cond (fun _ => sat_cond (fun _ => sat_cond (fun h5 => ?_) (fun h5 => sat_cond (fun h6 => ?_) (fun h6 => ?_))) (fun h => by simp at h)) (fun h => by simp at h)
  · obtain ⟨e1, e2⟩ := dw_hi n d h3 (of_decide_eq_true h5)
    refine sat_leaf ?_
    rw [e1, e2]
  · obtain ⟨e1, e2⟩ := dw_lo n d h3 (by have := of_decide_eq_true h6; omega)
    refine sat_leaf ?_
    rw [e1, e2]
  · obtain ⟨e1, e2⟩ := dw_mid n d h3 (by have := of_decide_eq_false h5; omega) (by have := of_decide_eq_false h6; omega)
    refine sat_leaf ?_
    rw [e1, e2]
abbrev v_divide : PureT := spec [cI, cI] [.st [cI, cI]] (fun x => dvOk x.1 x.2.1) (fun x => ((DW x.1 x.2.1, DR x.1 x.2.1, ()), ()))
theorem vq_divide : PureOk Tryz.prog 112 v_divide := q_by (ctx_ok mixed puOk_nil (fns_cons is_divide fns_nil)) 2 (fun x => T_divide x.1 x.2.1) (fun x => by kernel_rfl) fun x hok hw => T_divide_ok hok
theorem vpu2 : PuOk Tryz.prog [(112, v_divide), (109, v_outside)] := puOk_cons is_divide.plain vq_divide vpu1
namespace V
def T_Dv (n d : Int) : Tree (TCTs [.st [cI, cI], cI]) :=
  bif outB n (-1152921504606846976) 1152921504606846976 then .leaf ((0, 0, ()), 3, ())
          else bif outB d 1 1152921504606846976 then .leaf ((0, 0, ()), 3, ())
          else bif dvOk n d then
            bif (DW n d == 0) && ((DR n d == 0) && true) then .leaf ((0, 0, ()), 0, ())
            else .leaf (((DW n d), (DR n d), ()), 0, ())
          else .fail
theorem T_Dv_ok {n d : Int} : (T_Dv n d).sat (fun y => y = ((DvW n d, DvR n d, ()), DvE n d, ())) := by
  unfold T_Dv
  refine sat_cond (fun h1 => ?_) (fun h1 => sat_cond (fun h2 => ?_) (fun h2 => sat_cond (fun h3 => ?_) (fun h3 => ?_)))
  · obtain ⟨e1, e2, e3⟩ := dv_err1 n d h1
    refine sat_leaf ?_
    rw [e1, e2, e3]
  · obtain ⟨e1, e2, e3⟩ := dv_err2 n d h2
    refine sat_leaf ?_
    rw [e1, e2, e3]
  · have ⟨k1, k2⟩ := out_no h1
    have ⟨k3, k4⟩ := out_no h2
    obtain ⟨e1, e2, e3⟩ := dv_ok n d k1 k2 k3 k4
    refine sat_cond (fun h4 => ?_) (fun h4 => ?_)
    · simp at h4
      refine sat_leaf ?_
      rw [e1, e2, e3, h4.1, h4.2]
    · refine sat_leaf ?_
      rw [e1, e2, e3]
  · rw [dvOk_out, h1, h2] at h3; simp at h3
abbrev s_Divide : PureT := spec [cI, cI] [.st [cI, cI], cI] (fun x => true) (fun x => ((DvW x.1 x.2.1, DvR x.1 x.2.1, ()), DvE x.1 x.2.1, ()))
theorem q_Divide : PureOk Tryz.prog 206 s_Divide := q_by (ctx_ok mixed vpu2 (fns_cons is_Divide fns_nil)) 2 (fun x => T_Dv x.1 x.2.1) (fun x => by kernel_rfl) fun x hok hw => T_Dv_ok
end V
def tbB : ByteArray := ⟨((List.range 256).map fun i => UInt8.ofNat (if i = 0 then 0 else Nat.log2 i + 1)).toArray⟩
def tabv (i : Nat) : Int := ((tbB.data.toList.getD i 0).toNat : Int)
theorem tbB_get : ∀ i, i < 256 → (tbB.data.toList.getD i 0).toNat = bl i := by decide +kernel
theorem tabv_get (i : Nat) (h : i < 256) : tabv i = bl i := by unfold tabv; rw [tbB_get i h]
attribute [irreducible] tabv tbB
def sh64 (n k : Int) : Int := n.fdiv (2 ^ min (Int.toNat k) IntKind.u64.bits)
def lenC (m s : Int) : Tree (TCTs [cI]) := bif decide (0 ≤ IntKind.u8.wrap m ∧ IntKind.u8.wrap m < 256) then .leaf (IntKind.i64.wrap (s + IntKind.i64.wrap (tabv (IntKind.u8.wrap m).toNat)), ()) else .fail
def lenB (m s : Int) : Tree (TCTs [cI]) := bif decide (m ≥ 256) then lenC (sh64 m 8) (IntKind.i64.wrap (s + 8)) else lenC m s
def lenA64 (m s : Int) : Tree (TCTs [cI]) := bif decide (m ≥ 65536) then lenB (sh64 m 16) (IntKind.i64.wrap (s + 16)) else lenB m s
def lenT (n : Int) : Tree (TCTs [cI]) := bif decide (n ≥ 4294967296) then lenA64 (sh64 n 32) 32 else lenA64 n 0
section
attribute [local irreducible] Tree.sat
theorem sh64_nat (n k : Nat) (hk : k ≤ 64) : sh64 (n : Int) (k : Int) = ((n / 2 ^ k : Nat) : Int) := by
  unfold sh64
  have : min (Int.toNat (k : Int)) IntKind.u64.bits = k := by simp [IntKind.bits]; omega
  rw [this, Int.fdiv_eq_ediv_of_nonneg _ (by exact Int.le_of_lt (Int.pow_pos (by decide)))]
  simp
theorem wrap8_nat (m : Nat) (h : m < 256) : IntKind.u8.wrap (m : Int) = m := by
  unfold IntKind.wrap; simp [IntKind.bits, IntKind.signed]; omega
theorem lenC_ok {R : TCTs [cI] → Prop} (m s : Nat) (hm : m < 256) (hs : s ≤ 56) (h : R (((s + bl m : Nat) : Int), ())) : (lenC (m : Int) (s : Int)).sat R := by
  unfold lenC
  rw [wrap8_nat m hm]
  have hb : bl m ≤ 8 := bl_mono_le m 8 (by omega)
  refine sat_cond (fun _ => ?_) (fun h => ?_)
  · rw [Int.toNat_natCast, tabv_get m hm, wrap_id (n := (bl m : Int)) (by omega) (by omega), wrap_id (n := (s : Int) + (bl m : Int)) (by omega) (by omega)]
    refine sat_leaf ?_
    rw [← Int.natCast_add]; exact h
  · have := of_decide_eq_false h; omega
theorem lenB_ok {R : TCTs [cI] → Prop} (m s : Nat) (hm : m < 65536) (hs : s ≤ 48) (h : R (((s + bl m : Nat) : Int), ())) : (lenB (m : Int) (s : Int)).sat R := by
  unfold lenB
  refine sat_cond (fun h1 => ?_) (fun h1 => ?_)
  · have h2 := of_decide_eq_true h1
    rw [wrap_id (n := (s : Int) + 8) (by omega) (by omega)]
    have e1 := sh64_nat m 8 (by omega)
    simp only [Int.cast_ofNat_Int] at e1
    rw [e1]
    have e2 : (s : Int) + 8 = ((s + 8 : Nat) : Int) := by simp
    rw [e2]
    refine lenC_ok (m / 2 ^ 8) (s + 8) (by omega) (by omega) ?_
    have := bl_div m 8 (by omega)
    rwa [show s + 8 + bl (m / 2 ^ 8) = s + bl m by omega]
  · have h2 := of_decide_eq_false h1
    exact lenC_ok m s (by omega) (by omega) h
theorem lenA_ok {R : TCTs [cI] → Prop} (m s : Nat) (hm : m < 4294967296) (hs : s ≤ 32) (h : R (((s + bl m : Nat) : Int), ())) : (lenA64 (m : Int) (s : Int)).sat R := by
  unfold lenA64
  refine sat_cond (fun h1 => ?_) (fun h1 => ?_)
  · have h2 := of_decide_eq_true h1
    rw [wrap_id (n := (s : Int) + 16) (by omega) (by omega)]
    have e1 := sh64_nat m 16 (by omega)
    simp only [Int.cast_ofNat_Int] at e1
    rw [e1]
    have e2 : (s : Int) + 16 = ((s + 16 : Nat) : Int) := by simp
    rw [e2]
    refine lenB_ok (m / 2 ^ 16) (s + 16) (by omega) (by omega) ?_
    have := bl_div m 16 (by omega)
    rwa [show s + 16 + bl (m / 2 ^ 16) = s + bl m by omega]
  · have h2 := of_decide_eq_false h1
    exact lenB_ok m s (by omega) (by omega) h
theorem lenT_ok {R : TCTs [cI] → Prop} (n : Int) (h0 : 0 ≤ n) (h1 : n ≤ 18446744073709551615) (h : R ((bl n.toNat : Int), ())) : (lenT n).sat R := by
  obtain ⟨m, rfl⟩ := Int.eq_ofNat_of_zero_le h0
  rw [Int.toNat_natCast] at h
  unfold lenT
  refine sat_cond (fun h1 => ?_) (fun h1 => ?_)
  · have h2 := of_decide_eq_true h1
    have e1 := sh64_nat m 32 (by omega)
    simp only [Int.cast_ofNat_Int] at e1
    rw [e1]
    refine lenA_ok (m / 2 ^ 32) 32 (by omega) (by omega) ?_
    have := bl_div m 32 (by omega)
    rwa [show 32 + bl (m / 2 ^ 32) = bl m by omega]
  · have h2 := of_decide_eq_false h1
    exact lenA_ok m 0 (by omega) (by omega) (by rwa [Nat.zero_add])
end
abbrev v_Len64 : PureT := spec [.i .u64] [cI] (fun _ => true) (fun x => ((bl x.1.toNat : Int), ()))
theorem vq_Len64 : PureOk Tryz.prog 150 v_Len64 := q_by (ctx_ok mixed puOk_nil (fns_cons is_Len64 fns_nil)) 2 (fun x => lenT x.1) (fun x => by kernel_rfl) fun x _ hw => lenT_ok x.1 hw.1.1 hw.1.2 rfl
theorem vpu_Len64 : PuOk Tryz.prog [(150, v_Len64)] := puOk_cons is_Len64.plain vq_Len64 puOk_nil
noncomputable def lb_root : Code := (loopsOf (bodyOf Tryz.f110)).getD 0 .skip
def L_root : Lay := { keys := [0, 3], ks := [.d cI, .d cI], bs := [], n := 25, nx := 1000, marks := [] }
def Rf_root : Lay := { keys := [2], ks := [.d cI], bs := [], n := 25, nx := 1000, marks := [] }
def E_root : XE → Lay := fun _ => Rf_root
def hd_root (n x : Int) : L_root.T := ((n, x, ()), ())
def rt_root (r : Int) : Left' E_root := ⟨.ret, ((r, ()), ())⟩
def nw_root (n x : Int) : Int := IntKind.i64.wrap ((IntKind.i64.wrap (x + IntKind.i64.wrap (n.tdiv x))).tdiv 2)
def st_root' (n x : Int) : Tree (L_root.T ⊕ Left' E_root) := bif x != 0 then bif decide (nw_root n x ≥ x) then .leaf (.inr (rt_root x)) else .leaf (.inl (hd_root n (nw_root n x))) else .fail
def st_root (g : L_root.T) : Tree (L_root.T ⊕ Left' E_root) := st_root' g.1.1 g.1.2.1
def fu_root (g : L_root.T) : Nat := Int.toNat g.1.2.1 + 1
theorem l_root : LoopOk Tryz.prog 110 lb_root (loopSum L_root E_root (finX [.ret] st_root fu_root)) := loopOk_x0 (ctx_ok mixed puOk_nil fns_nil) 1 _ L_root E_root (fun _ => Nat.le_refl _) [.ret] st_root fu_root (fun g => by kernel_rfl)
theorem it_root {n : Int} (h1 : 2 ≤ n) (h2 : n ≤ 4611686018427387904) : ∀ (k : Nat) (x : Int), 1 ≤ x → x ≤ 4294967296 → rt n ≤ x → x.toNat ≤ k → iter st_root (k + 1) (hd_root n x) = some (rt_root (rt n))
  | 0, x, h3, _, _, hk => by omega
  | k + 1, x, h3, h4, h5, hk => by
    have hq := Int.ediv_nonneg (show 0 ≤ n by omega) (show 0 ≤ x by omega)
    have hq2 := Int.ediv_le_self x (show 0 ≤ n by omega)
    have e1 : nw_root n x = (x + n / x) / 2 := by
      unfold nw_root
      rw [Int.tdiv_eq_ediv_of_nonneg (show 0 ≤ n by omega), wrap_id (n := n / x) (by omega) (by omega), wrap_id (n := x + n / x) (by omega) (by omega), Int.tdiv_eq_ediv_of_nonneg (by omega), wrap_id (by omega) (by omega)]
    have hge := newton_ge n x (by omega) h3
    have hx0 : (x != 0) = true := by simp; omega
    have hs : st_root (hd_root n x) = bif decide ((x + n / x) / 2 ≥ x) then .leaf (.inr (rt_root x)) else .leaf (.inl (hd_root n ((x + n / x) / 2))) := by
      show st_root' n x = _
      unfold st_root'
      rw [hx0, e1]
      rfl
    cases hd : decide ((x + n / x) / 2 ≥ x) with
    | true =>
      have h7 := of_decide_eq_true hd
      have hx := newton_end n x (by omega) h3 h5 (by omega)
      rw [← hx]
      exact iter_out (by rw [hs, hd]; rfl)
    | false =>
      have h7 := of_decide_eq_false hd
      have hr := (rt_spec n (by omega)).1
      have hpos : 1 ≤ (x + n / x) / 2 := by
        have : 1 ≤ rt n := by
          have hc := (rt_spec n (by omega)).2.2
          rcases Int.lt_or_le (rt n) 1 with k | k
          · have : rt n = 0 := by omega
            rw [this] at hc; omega
          · exact k
        omega
      rw [iter_in (g' := hd_root n ((x + n / x) / 2)) (by rw [hs, hd]; rfl)]
      exact it_root h1 h2 k _ hpos (by omega) hge (by omega)
theorem rt_small (n : Int) (h0 : 0 ≤ n) (h : n < 2) : rt n = n := rt_unique n n h0 (by rcases (show n = 0 ∨ n = 1 by omega) with rfl | rfl <;> decide) (by rcases (show n = 0 ∨ n = 1 by omega) with rfl | rfl <;> decide)
def rtOk (n : Int) : Bool := decide (0 ≤ n ∧ n ≤ 4611686018427387904)
def RtV (n : Int) : Int := if rtOk n then rt n else 0
def RtE (n : Int) : Int := if rtOk n then 0 else 3
abbrev v_root : PureT := spec [cI] [cI] (fun x => decide (0 ≤ x.1 ∧ x.1 ≤ 4611686018427387904)) (fun x => (rt x.1, ()))
noncomputable def X_root : Ctx := ctxL Tryz.prog [(150, v_Len64)] [(110, Tryz.f110)] [((110, V.keyOf lb_root), loopSum L_root E_root (finX [.ret] st_root fu_root))]
theorem X_root_ok : CtxOk X_root := ctxL_ok mixed vpu_Len64 (fns_cons is_root fns_nil) (loops_one rfl (by kernel_rfl) l_root)
def sx_root (n : Int) : Int := IntKind.i64.wrap (1 * 2 ^ min (IntKind.i64.wrap ((IntKind.i64.wrap ((bl (IntKind.u64.wrap n).toNat : Int) + 1)).tdiv 2)).toNat IntKind.i64.bits)
def y_root (n : Int) : Option (Left' E_root) := iter st_root (Int.toNat (sx_root n) + 1) (hd_root n (sx_root n))
def T_root (n : Int) : Tree (TCTs [cI]) := bif decide (n < 2) then .leaf (n, ()) else bif decide (0 ≤ IntKind.i64.wrap ((IntKind.i64.wrap ((bl (IntKind.u64.wrap n).toNat : Int) + 1)).tdiv 2)) then bif isE .ret (y_root n) then .leaf ((valE .ret (y_root n)).1.1, ()) else .fail else .fail
theorem T_root_ok {n : Int} (h0 : 0 ≤ n) (h1 : n ≤ 4611686018427387904) : (T_root n).sat (fun y => y = (rt n, ())) := by
  unfold T_root y_root sx_root
  have hwr : IntKind.u64.wrap n = n := by unfold IntKind.wrap; simp [IntKind.bits, IntKind.signed]; omega
  have hb : bl n.toNat ≤ 63 := bl_mono_le _ 63 (by omega)
  rw [hwr, wrap_id (n := (bl n.toNat : Int) + 1) (by omega) (by omega), Int.tdiv_eq_ediv_of_nonneg (by omega), wrap_id (n := ((bl n.toNat : Int) + 1) / 2) (by omega) (by omega)]
  refine sat_cond (fun h2 => ?_) (fun h2 => sat_cond (fun h3 => ?_) (fun h3 => ?_))
  · have := of_decide_eq_true h2
    refine sat_leaf ?_
    rw [rt_small n h0 this]
  · have h5 := of_decide_eq_false h2
    have e2 : min (((bl n.toNat : Int) + 1) / 2).toNat IntKind.i64.bits = (bl n.toNat + 1) / 2 := by simp [IntKind.bits]; omega
    rw [e2, Int.one_mul]
    have hs := newton_start n h0
    have hk : (bl n.toNat + 1) / 2 ≤ 32 := by omega
    have hp1 : (1 : Int) ≤ 2 ^ ((bl n.toNat + 1) / 2) := Int.pow_pos (by decide)
    have hp2 : (2 : Int) ^ ((bl n.toNat + 1) / 2) ≤ 4294967296 := by
      have : 2 ^ ((bl n.toNat + 1) / 2) ≤ 2 ^ 32 := Nat.pow_le_pow_right (by decide) hk
      have h6 : ((2 ^ ((bl n.toNat + 1) / 2) : Nat) : Int) ≤ ((2 ^ 32 : Nat) : Int) := by exact_mod_cast this
      rw [Int.natCast_pow] at h6
      simpa using h6
    generalize (2 : Int) ^ ((bl n.toNat + 1) / 2) = y at hs hp1 hp2
    rw [wrap_id (by omega) (by omega)]
    have hr := rt_le n y h0 (by omega) hs
    rw [it_root (by omega) h1 y.toNat y hp1 hp2 hr (Nat.le_refl _)]
    exact sat_leaf rfl
  · have := of_decide_eq_false h3; omega
theorem vq_root : PureOk Tryz.prog 110 v_root := q_by X_root_ok 3 (fun x => T_root x.1) (fun x => by kernel_rfl) fun x hok _ => T_root_ok (of_decide_eq_true hok).1 (of_decide_eq_true hok).2
theorem vpu_root : PuOk Tryz.prog [(110, v_root), (109, v_outside)] := puOk_cons is_root.plain vq_root vpu1
namespace V
def T_Root (n : Int) : Tree (TCTs [cI, cI]) :=
  bif outB n 0 4611686018427387904 then .leaf (0, 3, ()) else bif decide (0 ≤ n ∧ n ≤ 4611686018427387904) then .leaf ((rt n), 0, ()) else .fail
theorem T_Root_ok {n : Int} : (T_Root n).sat (fun y => y = (RtV n, RtE n, ())) := by
  unfold T_Root
  refine sat_cond (fun h1 => ?_) (fun h1 => sat_cond (fun h2 => ?_) (fun h2 => ?_))
  · have : rtOk n = false := by
      unfold outB at h1; unfold rtOk
      simp at h1
      exact decide_eq_false (by omega)
    refine sat_leaf ?_
    unfold RtV RtE; rw [this]; rfl
  · have : rtOk n = true := h2
    refine sat_leaf ?_
    unfold RtV RtE; rw [this]; rfl
  · have := out_no h1
    have := of_decide_eq_false h2; omega
abbrev s_Root : PureT := spec [cI] [cI, cI] (fun x => true) (fun x => (RtV x.1, RtE x.1, ()))
theorem q_Root : PureOk Tryz.prog 185 s_Root := q_by (ctx_ok mixed vpu_root (fns_cons is_Root fns_nil)) 2 (fun x => T_Root x.1) (fun x => by kernel_rfl) fun x hok hw => T_Root_ok
end V
theorem out_false {x lo hi : Int} (h : outB x lo hi = false) : lo ≤ x ∧ x ≤ hi := by
  unfold outB at h
  simp only [Bool.or_eq_false_iff, decide_eq_false_iff_not] at h
  omega
def fitC (x y : Int) : Bool := decide (max (max (max x (IntKind.i64.wrap (0 - x))) y) (IntKind.i64.wrap (0 - y)) > 4194304)
def fitD (x y : Int) : Bool := decide (min x y < -4194304)
def fpt (x y : Int) : Bool := decide (-4194304 ≤ x ∧ x ≤ 4194304 ∧ -4194304 ≤ y ∧ y ≤ 4194304)
theorem wrap_neg (x : Int) (h1 : -9223372036854775808 ≤ x) (h2 : x ≤ 9223372036854775807) : IntKind.i64.wrap (0 - x) = if x = -9223372036854775808 then x else -x := by
  split
  · rename_i h; subst h; rfl
  · rw [wrap_id (by omega) (by omega)]; omega
theorem fitC_yes {x y : Int} (hx : inK .i64 x) (hy : inK .i64 y) (h : fitC x y = true) : fpt x y = false := by
  simp only [inK, minK, maxK] at hx hy
  unfold fitC at h; unfold fpt
  have h1 := of_decide_eq_true h
  rw [wrap_neg x (by omega) (by omega), wrap_neg y (by omega) (by omega)] at h1
  refine decide_eq_false ?_
  split at h1 <;> split at h1 <;> omega
theorem fitD_yes {x y : Int} (h : fitD x y = true) : fpt x y = false := by
  unfold fitD at h; unfold fpt
  have h1 := of_decide_eq_true h
  refine decide_eq_false ?_
  omega
theorem fit_no {x y : Int} (h : fitC x y = false) (k : fitD x y = false) : fpt x y = true := by
  unfold fitC at h; unfold fitD at k; unfold fpt
  have h1 := of_decide_eq_false h
  have k1 := of_decide_eq_false k
  refine decide_eq_true ?_
  omega
theorem fpt_bd {x y : Int} (h : fpt x y = true) : -4194304 ≤ x ∧ x ≤ 4194304 ∧ -4194304 ≤ y ∧ y ≤ 4194304 := of_decide_eq_true h
theorem fit_sat {α : Type} {R : α → Prop} {x y : Int} {t u : Tree α} (hx : inK .i64 x) (hy : inK .i64 y) (h1 : fpt x y = false → t.sat R) (h2 : fpt x y = true → u.sat R) : (bif fitC x y then t else bif fitD x y then t else u).sat R :=
  sat_cond (fun h => h1 (fitC_yes hx hy h)) (fun h => sat_cond (fun k => h1 (fitD_yes k)) (fun k => h2 (fit_no h k)))
def u_ck (x y : Int) : Int := bif fpt x y then 0 else 2
def u_cdOk (x y r : Int) : Bool := fpt x y && !outB r 1 65536
def u_cd (x y r : Int) : Int := bif u_cdOk x y r then 0 else 2
namespace V
def T_Chk (ax ay : Int) : Tree (TCTs [cI]) :=
  bif fitC ax ay then .leaf (2, ()) else bif fitD ax ay then .leaf (2, ()) else .leaf (0, ())
theorem T_Chk_ok {ax ay : Int} (a1 : inK .i64 ax) (a2 : inK .i64 ay) : (T_Chk ax ay).sat (fun y => y = (u_ck ax ay, ())) := by
  unfold T_Chk
  refine fit_sat a1 a2 (fun k => ?_) (fun k => ?_) <;> (refine sat_leaf ?_; unfold u_ck; rw [k]; rfl)
abbrev s_Check : PureT := spec [cPt] [cI] (fun x => true) (fun x => (u_ck x.1.1 x.1.2.1, ()))
theorem q_Check : PureOk Tryz.prog 50 s_Check := q_by (ctx_ok mixed puOk_nil (fns_cons u_is_Check (fns_cons is_fits fns_nil))) 3 (fun x => T_Chk x.1.1 x.1.2.1) (fun x => by kernel_rfl) fun x hok hw => T_Chk_ok hw.1.1 hw.1.2.1
def T_ChD (px py r : Int) : Tree (TCTs [cI]) :=
  bif fitC px py then .leaf (2, ()) else bif fitD px py then .leaf (2, ()) else
        bif decide (r < 1) then .leaf (2, ()) else bif decide (r > 65536) then .leaf (2, ()) else .leaf (0, ())
theorem T_ChD_ok {px py r : Int} (a1 : inK .i64 px) (a2 : inK .i64 py) : (T_ChD px py r).sat (fun y => y = (u_cd px py r, ())) := by
  unfold T_ChD
  refine fit_sat a1 a2 (fun k => ?_) (fun k1 => sat_cond (fun k => ?_) (fun k2 => sat_cond (fun k => ?_) (fun k3 => ?_)))
  · refine sat_leaf ?_
    unfold u_cd u_cdOk; rw [k]; rfl
  · refine sat_leaf ?_
    unfold u_cd u_cdOk outB; rw [k1, k]; rfl
  · have k' : decide (65536 < r) = true := k
    refine sat_leaf ?_
    unfold u_cd u_cdOk outB; rw [k1, k2, k']; rfl
  · have k' : decide (65536 < r) = false := k3
    refine sat_leaf ?_
    unfold u_cd u_cdOk outB; rw [k1, k2, k']; rfl
abbrev s_CheckDisc : PureT := spec [cDisc] [cI] (fun x => true) (fun x => (u_cd x.1.1.1 x.1.1.2.1 x.1.2.1, ()))
theorem q_CheckDisc : PureOk Tryz.prog 188 s_CheckDisc := q_by (ctx_ok mixed puOk_nil (fns_cons is_CheckDisc (fns_cons is_fits fns_nil))) 3 (fun x => T_ChD x.1.1.1 x.1.1.2.1 x.1.2.1) (fun x => by kernel_rfl) fun x hok hw => T_ChD_ok hw.1.1.1 hw.1.1.2.1
end V
def T_sqr (ax ay bx bY : Int) : Tree (TCTs [cI]) :=
  .leaf ((IntKind.i64.wrap (IntKind.i64.wrap (IntKind.i64.wrap (bx - ax) * IntKind.i64.wrap (bx - ax)) + IntKind.i64.wrap (IntKind.i64.wrap (bY - ay) * IntKind.i64.wrap (bY - ay)))), ())
theorem T_sqr_ok {ax ay bx bY : Int} (hok : (fpt ax ay && fpt bx bY) = true) : (T_sqr ax ay bx bY).sat (fun y => y = (sq ax ay bx bY, ())) := by
  unfold T_sqr
  rw [Bool.and_eq_true] at hok
  have c1 := fpt_bd hok.1
  have c2 := fpt_bd hok.2
  have b1 := mul_bd (a := bx - ax) (b := bx - ax) (A := 8388608) (B := 8388608) (by omega) (by omega) (by omega) (by omega)
  have b2 := mul_bd (a := bY - ay) (b := bY - ay) (A := 8388608) (B := 8388608) (by omega) (by omega) (by omega) (by omega)
  rw [wrap_id (n := bx - ax) (by omega) (by omega), wrap_id (n := bY - ay) (by omega) (by omega), wrap_id (n := (bx - ax) * (bx - ax)) (by omega) (by omega), wrap_id (n := (bY - ay) * (bY - ay)) (by omega) (by omega), wrap_id (n := (bx - ax) * (bx - ax) + (bY - ay) * (bY - ay)) (by omega) (by omega)]
  refine sat_leaf ?_
  unfold sq; rfl
abbrev v_square : PureT := spec [cPt, cPt] [cI] (fun x => fpt x.1.1 x.1.2.1 && fpt x.2.1.1 x.2.1.2.1) (fun x => (sq x.1.1 x.1.2.1 x.2.1.1 x.2.1.2.1, ()))
theorem vq_square : PureOk Tryz.prog 111 v_square := q_by (ctx_ok mixed puOk_nil (fns_cons is_square fns_nil)) 2 (fun x => T_sqr x.1.1 x.1.2.1 x.2.1.1 x.2.1.2.1) (fun x => by kernel_rfl) fun x hok hw => T_sqr_ok hok
def vpl_sq : List (Nat × PureT) := [(111, v_square), (110, v_root), (112, v_divide), (109, v_outside)]
theorem vpu_sq : PuOk Tryz.prog vpl_sq := puOk_cons is_square.plain vq_square (puOk_cons is_root.plain vq_root vpu2)
def SqR (ax ay bx bY : Int) : Int × Int := bif fpt ax ay && fpt bx bY then (sq ax ay bx bY, 0) else (0, 2)
namespace V
def T_Sqr (ax ay bx bY : Int) : Tree (TCTs [cI, cI]) :=
  bif fitC ax ay then .leaf (0, 2, ()) else bif fitD ax ay then .leaf (0, 2, ()) else
        bif fitC bx bY then .leaf (0, 2, ()) else bif fitD bx bY then .leaf (0, 2, ()) else
        bif fpt ax ay && fpt bx bY then .leaf ((sq ax ay bx bY), 0, ()) else .fail
theorem T_Sqr_ok {ax ay bx bY : Int} (a1 : inK .i64 ax) (a2 : inK .i64 ay) (a3 : inK .i64 bx) (a4 : inK .i64 bY) : (T_Sqr ax ay bx bY).sat (fun y => y = ((SqR ax ay bx bY).1, (SqR ax ay bx bY).2, ())) := by
  unfold T_Sqr
  refine fit_sat a1 a2 (fun k => ?_) (fun k1 => fit_sat a3 a4 (fun k => ?_) (fun k2 => ?_))
  · refine sat_leaf ?_
    unfold SqR; rw [k]; rfl
  · refine sat_leaf ?_
    unfold SqR; rw [k1, k]; rfl
  · rw [k1, k2]
    refine sat_leaf ?_
    unfold SqR; rw [k1, k2]; rfl
abbrev s_Square : PureT := spec [cPt, cPt] [cI, cI] (fun x => true) (fun x => ((SqR x.1.1 x.1.2.1 x.2.1.1 x.2.1.2.1).1, (SqR x.1.1 x.1.2.1 x.2.1.1 x.2.1.2.1).2, ()))
theorem q_Square : PureOk Tryz.prog 201 s_Square := q_by (ctx_ok mixed vpu_sq (fns_cons is_Square (fns_cons is_fits fns_nil))) 3 (fun x => T_Sqr x.1.1 x.1.2.1 x.2.1.1 x.2.1.2.1) (fun x => by kernel_rfl) fun x hok hw => T_Sqr_ok hw.1.1 hw.1.2.1 hw.2.1.1 hw.2.1.2.1
end V
def ToX (px qx d l : Int) : Int := qx + DW (64 * l * (px - qx)) d
def dTo (px py qx qy : Int) : Int := rt (sq px py qx qy * 4096)
def TwR (px py qx qy l : Int) : (Int × Int) × Int :=
  bif fpt px py && fpt qx qy then bif outB l 0 4194304 then ((0, 0), 3) else bif px == qx && py == qy then ((0, 0), 9) else
    bif fpt (ToX px qx (dTo px py qx qy) l) (ToX py qy (dTo px py qx qy) l) then ((ToX px qx (dTo px py qx qy) l, ToX py qy (dTo px py qx qy) l), 0) else ((0, 0), 4)
  else ((0, 0), 2)
theorem sq_bd {px py qx qy : Int} (h : fpt px py = true) (k : fpt qx qy = true) : 0 ≤ sq px py qx qy ∧ sq px py qx qy ≤ 140737488355328 := by
  have c1 := fpt_bd h
  have c2 := fpt_bd k
  have b1 := mul_bd (a := qx - px) (b := qx - px) (A := 8388608) (B := 8388608) (by omega) (by omega) (by omega) (by omega)
  have b2 := mul_bd (a := qy - py) (b := qy - py) (A := 8388608) (B := 8388608) (by omega) (by omega) (by omega) (by omega)
  have b3 := self_nn (qx - px)
  have b4 := self_nn (qy - py)
  unfold sq; omega
theorem dTo_bd {px py qx qy : Int} (h : fpt px py = true) (k : fpt qx qy = true) (hne : ¬ (px = qx ∧ py = qy)) : 1 ≤ dTo px py qx qy ∧ dTo px py qx qy ≤ 576460752303423488 := by
  have h1 := sq_bd h k
  have h2 := sq_pos hne
  obtain ⟨r1, r2, r3⟩ := rt_spec (sq px py qx qy * 4096) (by omega)
  unfold dTo
  generalize rt (sq px py qx qy * 4096) = d at r1 r2 r3
  have hd : 1 ≤ d := by
    rcases Int.lt_or_le d 1 with x | x
    · have : d = 0 := by omega
      subst this
      omega
    · exact x
  have := Int.mul_le_mul_of_nonneg_left hd (show 0 ≤ d by omega)
  omega
namespace V
def T_Tw (px py qx qy l : Int) : Tree (TCTs [cPt, cI]) :=
  let d := rt (IntKind.i64.wrap (sq px py qx qy * 4096))
        let ux := IntKind.i64.wrap (IntKind.i64.wrap (64 * l) * IntKind.i64.wrap (px - qx))
        let uy := IntKind.i64.wrap (IntKind.i64.wrap (64 * l) * IntKind.i64.wrap (py - qy))
        bif fitC px py then .leaf ((0, 0, ()), 2, ()) else bif fitD px py then .leaf ((0, 0, ()), 2, ()) else
        bif fitC qx qy then .leaf ((0, 0, ()), 2, ()) else bif fitD qx qy then .leaf ((0, 0, ()), 2, ()) else
        bif outB l 0 4194304 then .leaf ((0, 0, ()), 3, ()) else
        bif px == qx && (py == qy && true) then .leaf ((0, 0, ()), 9, ()) else
        bif fpt px py && fpt qx qy then bif decide (0 ≤ IntKind.i64.wrap (sq px py qx qy * 4096) ∧ IntKind.i64.wrap (sq px py qx qy * 4096) ≤ 4611686018427387904) then
        bif dvOk ux d then bif dvOk uy d then
        bif fitC (IntKind.i64.wrap (qx + DW ux d)) (IntKind.i64.wrap (qy + DW uy d)) then .leaf ((0, 0, ()), 4, ()) else bif fitD (IntKind.i64.wrap (qx + DW ux d)) (IntKind.i64.wrap (qy + DW uy d)) then .leaf ((0, 0, ()), 4, ()) else
          .leaf (((IntKind.i64.wrap (qx + DW ux d)), (IntKind.i64.wrap (qy + DW uy d)), ()), 0, ())
        else .fail else .fail else .fail else .fail
theorem T_Tw_ok {px py qx qy l : Int} (a1 : inK .i64 px) (a2 : inK .i64 py) (a3 : inK .i64 qx) (a4 : inK .i64 qy) : (T_Tw px py qx qy l).sat (fun y => y = (((TwR px py qx qy l).1.1, (TwR px py qx qy l).1.2, ()), (TwR px py qx qy l).2, ())) := by
  unfold T_Tw
  dsimp only
  refine fit_sat a1 a2 (fun k => ?_) (fun k1 => fit_sat a3 a4 (fun k => ?_) (fun k2 => sat_cond (fun k => ?_) (fun k3 => sat_cond (fun k => ?_) (fun k4 => ?_))))
  · refine sat_leaf ?_
    unfold TwR; rw [k]; rfl
  · refine sat_leaf ?_
    unfold TwR; rw [k1, k]; rfl
  · refine sat_leaf ?_
    unfold TwR; rw [k1, k2, k]; rfl
  · refine sat_leaf ?_
    rw [Bool.and_true] at k
    unfold TwR; rw [k1, k2, k3, k]; rfl
  · have c1 := fpt_bd k1
    have c2 := fpt_bd k2
    have c3 := out_false k3
    rw [Bool.and_true] at k4
    have hne : ¬ (px = qx ∧ py = qy) := by
      intro hh; simp [hh.1, hh.2] at k4
    have s1 := sq_bd k1 k2
    have hd := dTo_bd k1 k2 hne
    have b1 := mul_bd (a := 64 * l) (b := px - qx) (A := 268435456) (B := 8388608) (by omega) (by omega) (by omega) (by omega)
    have b2 := mul_bd (a := 64 * l) (b := py - qy) (A := 268435456) (B := 8388608) (by omega) (by omega) (by omega) (by omega)
    rw [wrap_id (n := sq px py qx qy * 4096) (by omega) (by omega), wrap_id (n := 64 * l) (by omega) (by omega), wrap_id (n := px - qx) (by omega) (by omega), wrap_id (n := py - qy) (by omega) (by omega), wrap_id (n := 64 * l * (px - qx)) (by omega) (by omega), wrap_id (n := 64 * l * (py - qy)) (by omega) (by omega)]
    have hdd : rt (sq px py qx qy * 4096) = dTo px py qx qy := rfl
    rw [hdd]
    have w1 := dw_bd (64 * l * (px - qx)) (dTo px py qx qy) 2251799813685248 hd.1 (by omega) (by omega) (by omega)
    have w2 := dw_bd (64 * l * (py - qy)) (dTo px py qx qy) 2251799813685248 hd.1 (by omega) (by omega) (by omega)
    rw [wrap_id (n := qx + DW (64 * l * (px - qx)) (dTo px py qx qy)) (by omega) (by omega), wrap_id (n := qy + DW (64 * l * (py - qy)) (dTo px py qx qy)) (by omega) (by omega)]
    have v1 : dvOk (64 * l * (px - qx)) (dTo px py qx qy) = true := by unfold dvOk; exact decide_eq_true (by omega)
    have v2 : dvOk (64 * l * (py - qy)) (dTo px py qx qy) = true := by unfold dvOk; exact decide_eq_true (by omega)
    rw [k1, k2, v1, v2]
    have v3 : decide (0 ≤ sq px py qx qy * 4096 ∧ sq px py qx qy * 4096 ≤ 4611686018427387904) = true := decide_eq_true (by omega)
    rw [v3]
    have hT : TwR px py qx qy l = bif fpt (ToX px qx (dTo px py qx qy) l) (ToX py qy (dTo px py qx qy) l) then ((ToX px qx (dTo px py qx qy) l, ToX py qy (dTo px py qx qy) l), 0) else ((0, 0), 4) := by
      unfold TwR; rw [k1, k2, k3, k4]; rfl
    rw [hT]
    simp only [cond_true, Bool.and_self]
    refine fit_sat ?_ ?_ (fun k => ?_) (fun k => ?_)
    · simp only [inK, minK, maxK]; omega
    · simp only [inK, minK, maxK]; omega
    · have k' : fpt (ToX px qx (dTo px py qx qy) l) (ToX py qy (dTo px py qx qy) l) = false := k
      rw [k']; exact sat_leaf rfl
    · have k' : fpt (ToX px qx (dTo px py qx qy) l) (ToX py qy (dTo px py qx qy) l) = true := k
      rw [k']; exact sat_leaf rfl
abbrev sv_Towards : PureT := spec [cPt, cPt, cI] [cPt, cI] (fun x => true) (fun x => (((TwR x.1.1 x.1.2.1 x.2.1.1 x.2.1.2.1 x.2.2.1).1.1, (TwR x.1.1 x.1.2.1 x.2.1.1 x.2.1.2.1 x.2.2.1).1.2, ()), (TwR x.1.1 x.1.2.1 x.2.1.1 x.2.1.2.1 x.2.2.1).2, ()))
theorem qv_Towards : PureOk Tryz.prog 56 sv_Towards := q_by (ctx_ok mixed vpu_sq (fns_cons is_Towards (fns_cons is_fits fns_nil))) 3 (fun x => T_Tw x.1.1 x.1.2.1 x.2.1.1 x.2.1.2.1 x.2.2.1) (fun x => by kernel_rfl) fun x hok hw => T_Tw_ok hw.1.1 hw.1.2.1 hw.2.1.1 hw.2.1.2.1
end V
def T_Am (a b c : Int) : Tree (TCTs [.b]) :=
  bif decide (a ≥ b) then .leaf ((decide (a ≤ c)), ()) else .leaf (false, ())
theorem T_Am_ok {a b c : Int} : (T_Am a b c).sat (fun y => y = (!outB a b c, ())) := by
  unfold T_Am
  refine sat_cond (fun h1 => ?_) (fun h1 => ?_)
  · have h2 := of_decide_eq_true h1
    refine sat_leaf ?_
    congr 1
    unfold outB
    rw [Bool.eq_iff_iff]
    simp only [decide_eq_true_eq, Bool.not_eq_true', Bool.or_eq_false_iff, decide_eq_false_iff_not]
    omega
  · have h2 := of_decide_eq_false h1
    refine sat_leaf ?_
    congr 1
    have : outB a b c = true := by unfold outB; simp; omega
    rw [this]; rfl
abbrev v_Among : PureT := spec [cI, cI, cI] [.b] (fun x => true) (fun x => (!outB x.1 x.2.1 x.2.2.1, ()))
theorem vq_Among : PureOk Tryz.prog 117 v_Among := q_by (ctx_ok mixed puOk_nil (fns_cons is_Among fns_nil)) 2 (fun x => T_Am x.1 x.2.1 x.2.2.1) (fun x => by kernel_rfl) fun x hok hw => T_Am_ok
def vpl_am : List (Nat × PureT) := [(117, v_Among)]
theorem vpu_am : PuOk Tryz.prog vpl_am := puOk_cons is_Among.plain vq_Among puOk_nil
theorem fpt_out (x y : Int) : fpt x y = (!outB x (-4194304) 4194304 && !outB y (-4194304) 4194304) := by
  unfold fpt outB
  rw [Bool.eq_iff_iff]
  simp only [decide_eq_true_eq, Bool.and_eq_true, Bool.not_eq_true', Bool.or_eq_false_iff, decide_eq_false_iff_not]
  omega
namespace V
def T_Va (x y : Int) : Tree (TCTs [.b]) :=
  bif !outB x (-4194304) 4194304 then .leaf ((!outB y (-4194304) 4194304), ()) else .leaf (false, ())
theorem T_Va_ok {x y : Int} : (T_Va x y).sat (fun z => z = (fpt x y, ())) := by
  unfold T_Va
  rw [fpt_out]
  refine sat_cond (fun h1 => ?_) (fun h1 => ?_) <;> (refine sat_leaf ?_; rw [h1]; rfl)
abbrev s_Valid : PureT := spec [cPt] [.b] (fun x => true) (fun x => (fpt x.1.1 x.1.2.1, ()))
theorem q_Valid : PureOk Tryz.prog 116 s_Valid := q_by (ctx_ok mixed vpu_am (fns_cons is_Valid fns_nil)) 2 (fun x => T_Va x.1.1 x.1.2.1) (fun x => by kernel_rfl) fun x hok hw => T_Va_ok
end V
namespace V
end V
namespace V
end V
end Go.Proofs.YtkiaifmbbnnliaaGreat
