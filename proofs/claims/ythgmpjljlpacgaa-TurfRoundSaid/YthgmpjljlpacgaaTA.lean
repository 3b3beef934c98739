/- Contracts of turf.outside, divide, Divide and of the laws' examples: for every input the quotient rounded to the nearest, and the rest. -/
import Derived.Test.YthgmpjljlpacgaaEA
import Derived.Test.YthgmpjljlpacgaaMA
import Derived.Test.YthgmpjljlpacgaaRows
namespace Go.Proofs.Ythgmpjljlpacgaa
open Go.RowKit Ev

theorem mixed : Try.prog.follows .mixedOrders = true := by kernel_rfl
theorem is_outside : FnIs Try.prog (45, Try.f45) := ⟨Try.func45, by kernel_rfl, by kernel_rfl⟩
theorem is_divide : FnIs Try.prog (46, Try.f46) := ⟨Try.func46, by kernel_rfl, by kernel_rfl⟩
theorem is_Divide : FnIs Try.prog (13, Try.f13) := ⟨Try.func13, by kernel_rfl, by kernel_rfl⟩
theorem is_Root : FnIs Try.prog (23, Try.f23) := ⟨Try.func23, by kernel_rfl, by kernel_rfl⟩
theorem is_root : FnIs Try.prog (48, Try.f48) := ⟨Try.func48, by kernel_rfl, by kernel_rfl⟩
theorem is_Len64 : FnIs Try.prog (69, Try.f69) := ⟨Try.func69, by kernel_rfl, by kernel_rfl⟩
theorem is_Ring : FnIs Try.prog (30, Try.f30) := ⟨Try.func30, by kernel_rfl, by kernel_rfl⟩
theorem is_ring : FnIs Try.prog (59, Try.f59) := ⟨Try.func59, by kernel_rfl, by kernel_rfl⟩
theorem is_fits : FnIs Try.prog (47, Try.f47) := ⟨Try.func47, by kernel_rfl, by kernel_rfl⟩
theorem is_CheckDisc : FnIs Try.prog (37, Try.f37) := ⟨Try.func37, by kernel_rfl, by kernel_rfl⟩
theorem is_fine : FnIs Try.prog (14, Try.f14) := ⟨Try.func14, by kernel_rfl, by kernel_rfl⟩

/-! outside -/
def g_outside : PureT
  | [.int .i64 a, .int .i64 b, .int .i64 c] => some (true, .bool (outB a b c))
  | _ => none
theorem p_outside : PureOk Try.prog 45 g_outside := by
  refine pureOk_of_ev (ctx_ok mixed puOk_nil (fns_cons is_outside fns_nil)) 2 fun xs x hw h => ?_
  unfold g_outside at h
  split at h
  · rename_i a b c
    simp only [Option.some.injEq, Prod.mk.injEq, true_and] at h
    subst h
    refine ⟨rfl, ?_⟩
    have e : evFn (ctx Try.prog [] [(45, Try.f45)]) 2 45 [.int .i64 a, .int .i64 b, .int .i64 c] noHeap 0 outK = bif decide (a < b) then .leaf (.bool true) else .leaf (.bool (decide (a > c))) := by kernel_rfl
    rw [e]
    refine sat_cond (fun h1 => ?_) (fun h1 => ?_) <;> (show AV.bool _ = AV.bool _; unfold outB; rw [h1]; rfl)
  · simp at h
theorem pu1 : PuOk Try.prog [(45, g_outside)] := puOk_cons is_outside.plain p_outside puOk_nil

/-! divide, of a number of amount at most 2^60, by one from 1 to 2^60 -/
def dOk (n d : Int) : Bool := decide (-1152921504606846976 ≤ n ∧ n ≤ 1152921504606846976 ∧ 1 ≤ d ∧ d ≤ 1152921504606846976)
def g_divide : PureT
  | [.int .i64 n, .int .i64 d] => some (dvOk n d, .agg [.int .i64 (DW n d), .int .i64 (DR n d)])
  | _ => none
theorem p_divide : PureOk Try.prog 46 g_divide := by
  refine pureOk_of_ev (ctx_ok mixed puOk_nil (fns_cons is_divide fns_nil)) 2 fun xs x hw h => ?_
  unfold g_divide at h
  split at h
  · rename_i n d
    simp only [Option.some.injEq, Prod.mk.injEq] at h
    obtain ⟨hok, rfl⟩ := h
    unfold dvOk at hok
    obtain ⟨h1, h2, h3, h4⟩ := of_decide_eq_true hok
    refine ⟨rfl, ?_⟩
    have e : evFn (ctx Try.prog [] [(46, Try.f46)]) 2 46 [.int .i64 n, .int .i64 d] noHeap 0 outK =
        bif d != 0 then bif d != 0 then
          bif decide (IntKind.i64.wrap (2 * n.tmod d) ≥ d) then .leaf (.agg [.int .i64 (IntKind.i64.wrap (IntKind.i64.wrap (n.tdiv d) + 1)), .int .i64 (IntKind.i64.wrap (n.tmod d - d))])
          else bif decide (IntKind.i64.wrap (2 * n.tmod d) < IntKind.i64.wrap (0 - d)) then .leaf (.agg [.int .i64 (IntKind.i64.wrap (IntKind.i64.wrap (n.tdiv d) - 1)), .int .i64 (IntKind.i64.wrap (n.tmod d + d))])
          else .leaf (.agg [.int .i64 (IntKind.i64.wrap (n.tdiv d)), .int .i64 (n.tmod d)])
        else .fail else .fail := by kernel_rfl
    rw [e]
    have hd : (d != 0) = true := by simp; omega
    have ⟨k1, k2⟩ := tm_bd n d h3
    have ⟨k3, k4⟩ := td_bd n d 1152921504606846976 h3 h1 h2
    rw [wrap_id (n := 2 * n.tmod d) (by omega) (by omega), wrap_id (n := n.tdiv d) (by omega) (by omega), wrap_id (n := n.tdiv d + 1) (by omega) (by omega), wrap_id (n := n.tdiv d - 1) (by omega) (by omega),
      wrap_id (n := n.tmod d - d) (by omega) (by omega), wrap_id (n := n.tmod d + d) (by omega) (by omega), wrap_id (n := 0 - d) (by omega) (by omega), hd]
    refine sat_cond (fun _ => sat_cond (fun _ => sat_cond (fun h5 => ?_) (fun h5 => sat_cond (fun h6 => ?_) (fun h6 => ?_))) (fun h => by simp at h)) (fun h => by simp at h)
    · obtain ⟨e1, e2⟩ := dw_hi n d h3 (of_decide_eq_true h5)
      show AV.agg _ = AV.agg _
      rw [e1, e2]
    · obtain ⟨e1, e2⟩ := dw_lo n d h3 (by have := of_decide_eq_true h6; omega)
      show AV.agg _ = AV.agg _
      rw [e1, e2]
    · obtain ⟨e1, e2⟩ := dw_mid n d h3 (by have := of_decide_eq_false h5; omega) (by have := of_decide_eq_false h6; omega)
      show AV.agg _ = AV.agg _
      rw [e1, e2]
  · simp at h
theorem pu2 : PuOk Try.prog [(46, g_divide), (45, g_outside)] := puOk_cons is_divide.plain p_divide pu1

/-! Divide -/
def g_Divide : PureT
  | [.int .i64 n, .int .i64 d] => some (true, .tup [.agg [.int .i64 (DvW n d), .int .i64 (DvR n d)], .int .i64 (DvE n d)])
  | _ => none
theorem p_Divide : PureOk Try.prog 13 g_Divide := by
  refine pureOk_of_ev (ctx_ok mixed pu2 (fns_cons is_Divide fns_nil)) 2 fun xs x hw h => ?_
  unfold g_Divide at h
  split at h
  · rename_i n d
    simp only [Option.some.injEq, Prod.mk.injEq, true_and] at h
    subst h
    refine ⟨rfl, ?_⟩
    have e : evFn (ctx Try.prog [(46, g_divide), (45, g_outside)] [(13, Try.f13)]) 2 13 [.int .i64 n, .int .i64 d] noHeap 0 outK =
        bif outB n (-1152921504606846976) 1152921504606846976 then .leaf (.tup [.agg [.int .i64 0, .int .i64 0], .int .i64 3])
        else bif outB d 1 1152921504606846976 then .leaf (.tup [.agg [.int .i64 0, .int .i64 0], .int .i64 3])
        else bif dvOk n d then
          bif (DW n d == 0) && ((DR n d == 0) && true) then .leaf (.tup [.agg [.int .i64 0, .int .i64 0], .int .i64 0])
          else .leaf (.tup [.agg [.int .i64 (DW n d), .int .i64 (DR n d)], .int .i64 0])
        else .fail := by kernel_rfl
    rw [e]
    refine sat_cond (fun h1 => ?_) (fun h1 => sat_cond (fun h2 => ?_) (fun h2 => sat_cond (fun h3 => ?_) (fun h3 => ?_)))
    · obtain ⟨e1, e2, e3⟩ := dv_err1 n d h1
      show AV.tup _ = AV.tup _
      rw [e1, e2, e3]
    · obtain ⟨e1, e2, e3⟩ := dv_err2 n d h2
      show AV.tup _ = AV.tup _
      rw [e1, e2, e3]
    · have ⟨k1, k2⟩ := out_no h1
      have ⟨k3, k4⟩ := out_no h2
      obtain ⟨e1, e2, e3⟩ := dv_ok n d k1 k2 k3 k4
      refine sat_cond (fun h4 => ?_) (fun h4 => ?_)
      · simp at h4
        show AV.tup _ = AV.tup _
        rw [e1, e2, e3, h4.1, h4.2]
      · show AV.tup _ = AV.tup _
        rw [e1, e2, e3]
    · rw [dvOk_out, h1, h2] at h3; simp at h3
  · simp at h
theorem pu3 : PuOk Try.prog [(13, g_Divide), (46, g_divide), (45, g_outside)] := puOk_cons is_Divide.plain p_Divide pu2

/-! the chapter's examples -/
def g_fine : PureT
  | [] => some (true, .bool true)
  | _ => none
theorem fine_fns : ∀ p ∈ [(45, Try.f45), (46, Try.f46), (13, Try.f13), (23, Try.f23), (48, Try.f48), (69, Try.f69), (30, Try.f30), (59, Try.f59), (47, Try.f47), (37, Try.f37), (14, Try.f14)], FnIs Try.prog p :=
  fns_cons is_outside (fns_cons is_divide (fns_cons is_Divide (fns_cons is_Root (fns_cons is_root (fns_cons is_Len64 (fns_cons is_Ring (fns_cons is_ring (fns_cons is_fits (fns_cons is_CheckDisc (fns_cons is_fine fns_nil))))))))))
theorem p_fine : PureOk Try.prog 14 g_fine := by
  refine pureOk_of_ev (ctx_ok mixed puOk_nil fine_fns) 8 fun xs x hw h => ?_
  unfold g_fine at h
  split at h
  · simp only [Option.some.injEq, Prod.mk.injEq, true_and] at h
    subst h
    refine ⟨rfl, ?_⟩
    have e : evFn (ctx Try.prog [] [(45, Try.f45), (46, Try.f46), (13, Try.f13), (23, Try.f23), (48, Try.f48), (69, Try.f69), (30, Try.f30), (59, Try.f59), (47, Try.f47), (37, Try.f37), (14, Try.f14)]) 8 14 [] noHeap 0 outK = bif true then .leaf (.bool true) else .fail := by kernel_rfl
    rw [e]; rfl
  · simp at h
end Go.Proofs.Ythgmpjljlpacgaa
/- Contracts of bits.Len64, turf.root and turf.Root. -/
namespace Go.Proofs.Ythgmpjljlpacgaa
open Go.RowKit Ev

/-! bits.Len64 -/
def tbB : ByteArray := ⟨((List.range 256).map fun i => UInt8.ofNat (if i = 0 then 0 else Nat.log2 i + 1)).toArray⟩
def tabv (i : Nat) : Int := ((tbB.data.toList.getD i 0).toNat : Int)
theorem tbB_get : ∀ i, i < 256 → (tbB.data.toList.getD i 0).toNat = bl i := by decide +kernel
theorem tabv_get (i : Nat) (h : i < 256) : tabv i = bl i := by unfold tabv; rw [tbB_get i h]
attribute [irreducible] tabv tbB
def sh64 (n k : Int) : Int := n.fdiv (2 ^ min (Int.toNat k) IntKind.u64.bits)
def lenC (m s : Int) : Tree AV := bif decide (0 ≤ IntKind.u8.wrap m ∧ IntKind.u8.wrap m < 256) then .leaf (.int .i64 (IntKind.i64.wrap (s + IntKind.i64.wrap (tabv (IntKind.u8.wrap m).toNat)))) else .fail
def lenB (m s : Int) : Tree AV := bif decide (m ≥ 256) then lenC (sh64 m 8) (IntKind.i64.wrap (s + 8)) else lenC m s
def lenA64 (m s : Int) : Tree AV := bif decide (m ≥ 65536) then lenB (sh64 m 16) (IntKind.i64.wrap (s + 16)) else lenB m s
def lenT (n : Int) : Tree AV := bif decide (n ≥ 4294967296) then lenA64 (sh64 n 32) 32 else lenA64 n 0

theorem sh64_nat (n k : Nat) (hk : k ≤ 64) : sh64 (n : Int) (k : Int) = ((n / 2 ^ k : Nat) : Int) := by
  unfold sh64
  have : min (Int.toNat (k : Int)) IntKind.u64.bits = k := by simp [IntKind.bits]; omega
  rw [this, Int.fdiv_eq_ediv_of_nonneg _ (by exact Int.le_of_lt (Int.pow_pos (by decide)))]
  simp
theorem wrap8_nat (m : Nat) (h : m < 256) : IntKind.u8.wrap (m : Int) = m := by
  unfold IntKind.wrap; simp [IntKind.bits, IntKind.signed]; omega
section
attribute [local irreducible] Tree.sat
theorem lenC_ok {R : AV → Prop} (m s : Nat) (hm : m < 256) (hs : s ≤ 56) (h : R (.int .i64 ((s + bl m : Nat) : Int))) : (lenC (m : Int) (s : Int)).sat R := by
  unfold lenC
  rw [wrap8_nat m hm]
  have hb : bl m ≤ 8 := bl_mono_le m 8 (by omega)
  refine sat_cond (fun _ => ?_) (fun h => ?_)
  · rw [Int.toNat_natCast, tabv_get m hm, wrap_id (n := (bl m : Int)) (by omega) (by omega), wrap_id (n := (s : Int) + (bl m : Int)) (by omega) (by omega)]
    refine sat_leaf ?_
    rw [← Int.natCast_add]; exact h
  · have := of_decide_eq_false h; omega
theorem lenB_ok {R : AV → Prop} (m s : Nat) (hm : m < 65536) (hs : s ≤ 48) (h : R (.int .i64 ((s + bl m : Nat) : Int))) : (lenB (m : Int) (s : Int)).sat R := by
  unfold lenB
  refine sat_cond (fun h1 => ?_) (fun h1 => ?_)
  · have h2 := of_decide_eq_true h1
    rw [wrap_id (n := (s : Int) + 8) (by omega) (by omega)]
    have e1 := sh64_nat m 8 (by omega)
    simp only [Int.cast_ofNat_Int] at e1
    rw [e1]
    have e2 : (s : Int) + 8 = ((s + 8 : Nat) : Int) := by simp
    rw [e2]
    refine lenC_ok (m / 2 ^ 8) (s + 8) (by omega) (by omega) ?_
    have := bl_div m 8 (by omega)
    rwa [show s + 8 + bl (m / 2 ^ 8) = s + bl m by omega]
  · have h2 := of_decide_eq_false h1
    exact lenC_ok m s (by omega) (by omega) h
theorem lenA_ok {R : AV → Prop} (m s : Nat) (hm : m < 4294967296) (hs : s ≤ 32) (h : R (.int .i64 ((s + bl m : Nat) : Int))) : (lenA64 (m : Int) (s : Int)).sat R := by
  unfold lenA64
  refine sat_cond (fun h1 => ?_) (fun h1 => ?_)
  · have h2 := of_decide_eq_true h1
    rw [wrap_id (n := (s : Int) + 16) (by omega) (by omega)]
    have e1 := sh64_nat m 16 (by omega)
    simp only [Int.cast_ofNat_Int] at e1
    rw [e1]
    have e2 : (s : Int) + 16 = ((s + 16 : Nat) : Int) := by simp
    rw [e2]
    refine lenB_ok (m / 2 ^ 16) (s + 16) (by omega) (by omega) ?_
    have := bl_div m 16 (by omega)
    rwa [show s + 16 + bl (m / 2 ^ 16) = s + bl m by omega]
  · have h2 := of_decide_eq_false h1
    exact lenB_ok m s (by omega) (by omega) h
theorem lenT_ok {R : AV → Prop} (n : Int) (h0 : 0 ≤ n) (h1 : n ≤ 18446744073709551615) (h : R (.int .i64 (bl n.toNat : Int))) : (lenT n).sat R := by
  obtain ⟨m, rfl⟩ := Int.eq_ofNat_of_zero_le h0
  rw [Int.toNat_natCast] at h
  unfold lenT
  refine sat_cond (fun h1 => ?_) (fun h1 => ?_)
  · have h2 := of_decide_eq_true h1
    have e1 := sh64_nat m 32 (by omega)
    simp only [Int.cast_ofNat_Int] at e1
    rw [e1]
    refine lenA_ok (m / 2 ^ 32) 32 (by omega) (by omega) ?_
    have := bl_div m 32 (by omega)
    rwa [show 32 + bl (m / 2 ^ 32) = bl m by omega]
  · have h2 := of_decide_eq_false h1
    exact lenA_ok m 0 (by omega) (by omega) (by rwa [Nat.zero_add])

end

def g_Len64 : PureT
  | [.int .u64 n] => some (true, .int .i64 (bl n.toNat : Int))
  | _ => none
theorem p_Len64 : PureOk Try.prog 69 g_Len64 := by
  refine pureOk_of_ev (ctx_ok mixed puOk_nil (fns_cons is_Len64 fns_nil)) 2 fun xs x hw h => ?_
  unfold g_Len64 at h
  split at h
  · rename_i n
    simp only [Option.some.injEq, Prod.mk.injEq, true_and] at h
    subst h
    simp only [WFL, WF, and_true] at hw
    obtain ⟨h1, h2⟩ := hw
    refine ⟨rfl, ?_⟩
    have e : evFn (ctx Try.prog [] [(69, Try.f69)]) 2 69 [.int .u64 n] noHeap 0 outK = lenT n := by kernel_rfl
    rw [e]
    exact lenT_ok n h1 h2 rfl
  · simp at h
theorem pu_Len64 : PuOk Try.prog [(69, g_Len64)] := puOk_cons is_Len64.plain p_Len64 puOk_nil

/-! root: of a number from 0 to 2^62 -/
noncomputable def lb_root : Code := (loopsOf (bodyOf Try.f48)).getD 0 .skip
def lv_root : Lv := { keys := [0, 2, 3], ids := [], n := 25, nx := 0 }
def inv_root (n x : Int) : Bool := decide (2 ≤ n ∧ n ≤ 4611686018427387904 ∧ 1 ≤ x ∧ x ≤ 4294967296 ∧ rt n ≤ x)
def at_root (g : Int × Int) : Snap := ([.int .i64 g.1, .int .i64 0, .int .i64 g.2], [])
def en_root : Snap → Option (Int × Int)
  | ([.int .i64 n, .int .i64 0, .int .i64 x], []) => some (n, x)
  | _ => none
def fin_root (g : Int × Int) : Tree (Exit × Snap) := .br (inv_root g.1 g.2) (.leaf (.ret, ([.int .i64 g.1, .int .i64 (rt g.1), .int .i64 (rt g.1)], []))) .fail

theorem l_root : LoopOk Try.prog lb_root (loopSum lv_root en_root fin_root) := by
  refine loopOk_of (X := ctx Try.prog [] []) (ctx_ok mixed puOk_nil fns_nil) 1 (fun _ => none) (fun _ _ f h => by simp at h) lv_root en_root fin_root at_root (fun g => inv_root g.1 g.2 = true) (fun g => g.2.toNat) ?_ ?_ ?_ ?_
  · intro v g h
    unfold en_root at h
    split at h
    · simp at h; subst h; rfl
    · simp at h
  · intro g _; rfl
  · intro g R h _
    unfold fin_root at h
    cases hi : inv_root g.1 g.2 with
    | true => rfl
    | false => simp [hi, Tree.sat] at h
  · rintro ⟨n, x⟩ hI _
    have e : evC (α := Exit × Bool × Snap) Try.prog (evFn (ctx Try.prog [] []) 1) [] 64 (fun _ => none) lb_root (ofSnap lv_root (at_root (n, x))) (fun e s' => .leaf (e, Nat.beq s'.n lv_root.n && snapBd lv_root (snap lv_root s'), snap lv_root s')) =
        bif x != 0 then
          bif decide (IntKind.i64.wrap ((IntKind.i64.wrap (x + IntKind.i64.wrap (n.tdiv x))).tdiv 2) ≥ x) then .leaf (Exit.ret, true, [.int .i64 n, .int .i64 x, .int .i64 x], [])
          else .leaf (Exit.normal, true, [.int .i64 n, .int .i64 0, .int .i64 (IntKind.i64.wrap ((IntKind.i64.wrap (x + IntKind.i64.wrap (n.tdiv x))).tdiv 2))], [])
        else .fail := by kernel_rfl
    have hI0 := hI
    simp only [inv_root] at hI0
    obtain ⟨h1, h2, h3, h4, h5⟩ := of_decide_eq_true hI0
    have hq := Int.ediv_nonneg (show 0 ≤ n by omega) (show 0 ≤ x by omega)
    have hq2 := Int.ediv_le_self x (show 0 ≤ n by omega)
    have e1 : IntKind.i64.wrap ((IntKind.i64.wrap (x + IntKind.i64.wrap (n.tdiv x))).tdiv 2) = (x + n / x) / 2 := by
      rw [Int.tdiv_eq_ediv_of_nonneg (show 0 ≤ n by omega), wrap_id (n := n / x) (by omega) (by omega), wrap_id (n := x + n / x) (by omega) (by omega), Int.tdiv_eq_ediv_of_nonneg (by omega), wrap_id (by omega) (by omega)]
    show (evC (α := Exit × Bool × Snap) Try.prog (evFn (ctx Try.prog [] []) 1) [] 64 (fun _ => none) lb_root (ofSnap lv_root (at_root (n, x))) (fun e s' => .leaf (e, Nat.beq s'.n lv_root.n && snapBd lv_root (snap lv_root s'), snap lv_root s'))).sat _
    rw [e, e1]
    have hge := newton_ge n x (by omega) h3
    refine sat_cond (fun _ => sat_cond (fun h6 => ⟨rfl, ?_⟩) (fun h6 => ⟨rfl, ?_⟩)) (fun h => ?_)
    · have h7 := of_decide_eq_true h6
      have hx := newton_end n x (by omega) h3 h5 (by omega)
      intro _ R hf
      unfold fin_root at hf
      have hf' : R (Exit.ret, ([.int .i64 n, .int .i64 (rt n), .int .i64 (rt n)], [])) := hf.1 hI
      rw [← hx] at hf'
      exact hf'
    · have h7 := of_decide_eq_false h6
      refine ⟨(n, (x + n / x) / 2), rfl, fun _ => ?_⟩
      have hr := (rt_spec n (by omega)).1
      have hpos : 1 ≤ (x + n / x) / 2 := by
        have : 1 ≤ rt n := by
          have hc := (rt_spec n (by omega)).2.2
          rcases Int.lt_or_le (rt n) 1 with k | k
          · have : rt n = 0 := by omega
            rw [this] at hc; omega
          · exact k
        omega
      have hI' : inv_root n ((x + n / x) / 2) = true := by
        unfold inv_root; exact decide_eq_true ⟨h1, h2, hpos, by omega, hge⟩
      refine ⟨hI', by simp only; omega, fun R hf => ?_⟩
      unfold fin_root at hf ⊢
      exact ⟨fun _ => hf.1 hI, fun h => by rw [hI'] at h; simp at h⟩
    · have : x ≠ 0 := by omega
      simp at h; exact absurd h this

def g_root : PureT
  | [.int .i64 n] => some (decide (0 ≤ n ∧ n ≤ 4611686018427387904), .int .i64 (rt n))
  | _ => none
noncomputable def X_root : Ctx := ctxL Try.prog [(69, g_Len64)] [(48, Try.f48)] [((48, Ev.keyOf lb_root), loopSum lv_root en_root fin_root)]
theorem X_root_ok : CtxOk X_root := ctxL_ok mixed pu_Len64 (fns_cons is_root fns_nil) (loops_one (by kernel_rfl) l_root)
theorem rt_small (n : Int) (h0 : 0 ≤ n) (h : n < 2) : rt n = n := rt_unique n n h0 (by rcases (show n = 0 ∨ n = 1 by omega) with rfl | rfl <;> decide) (by rcases (show n = 0 ∨ n = 1 by omega) with rfl | rfl <;> decide)
theorem p_root : PureOk Try.prog 48 g_root := by
  refine pureOk_of_ev X_root_ok 3 fun xs x hw h => ?_
  unfold g_root at h
  split at h
  · rename_i n
    simp only [Option.some.injEq, Prod.mk.injEq] at h
    obtain ⟨hok, rfl⟩ := h
    obtain ⟨h0, h1⟩ := of_decide_eq_true hok
    refine ⟨rfl, ?_⟩
    have e : evFn X_root 3 48 [.int .i64 n] noHeap 0 outK =
        bif decide (n < 2) then .leaf (.int .i64 n)
        else bif decide (0 ≤ IntKind.i64.wrap ((IntKind.i64.wrap ((bl (IntKind.u64.wrap n).toNat : Int) + 1)).tdiv 2)) then
          bif inv_root n (IntKind.i64.wrap (1 * 2 ^ min (IntKind.i64.wrap ((IntKind.i64.wrap ((bl (IntKind.u64.wrap n).toNat : Int) + 1)).tdiv 2)).toNat IntKind.i64.bits)) then .leaf (.int .i64 (rt n)) else .fail
        else .fail := by kernel_rfl
    rw [e]
    have hwr : IntKind.u64.wrap n = n := by unfold IntKind.wrap; simp [IntKind.bits, IntKind.signed]; omega
    have hb : bl n.toNat ≤ 63 := bl_mono_le _ 63 (by omega)
    rw [hwr, wrap_id (n := (bl n.toNat : Int) + 1) (by omega) (by omega), Int.tdiv_eq_ediv_of_nonneg (by omega), wrap_id (n := ((bl n.toNat : Int) + 1) / 2) (by omega) (by omega)]
    refine sat_cond (fun h2 => ?_) (fun h2 => sat_cond (fun h3 => sat_cond (fun h4 => sat_leaf rfl) (fun h4 => ?_)) (fun h3 => ?_))
    · have := of_decide_eq_true h2
      refine sat_leaf ?_
      rw [rt_small n h0 this]
    · have h5 := of_decide_eq_false h2
      exfalso
      have e2 : min (((bl n.toNat : Int) + 1) / 2).toNat IntKind.i64.bits = (bl n.toNat + 1) / 2 := by simp [IntKind.bits]; omega
      rw [e2, Int.one_mul] at h4
      have hs := newton_start n h0
      have hk : (bl n.toNat + 1) / 2 ≤ 32 := by omega
      have hp1 : (1 : Int) ≤ 2 ^ ((bl n.toNat + 1) / 2) := Int.pow_pos (by decide)
      have hp2 : (2 : Int) ^ ((bl n.toNat + 1) / 2) ≤ 4294967296 := by
        have : 2 ^ ((bl n.toNat + 1) / 2) ≤ 2 ^ 32 := Nat.pow_le_pow_right (by decide) hk
        have h6 : ((2 ^ ((bl n.toNat + 1) / 2) : Nat) : Int) ≤ ((2 ^ 32 : Nat) : Int) := by exact_mod_cast this
        rw [Int.natCast_pow] at h6
        simpa using h6
      generalize (2 : Int) ^ ((bl n.toNat + 1) / 2) = y at hs hp1 hp2 h4
      rw [wrap_id (by omega) (by omega)] at h4
      have hr := rt_le n y h0 (by omega) hs
      unfold inv_root at h4
      have := of_decide_eq_false h4
      omega
    · have := of_decide_eq_false h3; omega
  · simp at h
theorem pu_root : PuOk Try.prog [(48, g_root), (45, g_outside)] := puOk_cons is_root.plain p_root pu1

/-! Root -/
def rtOk (n : Int) : Bool := decide (0 ≤ n ∧ n ≤ 4611686018427387904)
def RtV (n : Int) : Int := if rtOk n then rt n else 0
def RtE (n : Int) : Int := if rtOk n then 0 else 3
def g_Root : PureT
  | [.int .i64 n] => some (true, .tup [.int .i64 (RtV n), .int .i64 (RtE n)])
  | _ => none
theorem p_Root : PureOk Try.prog 23 g_Root := by
  refine pureOk_of_ev (ctx_ok mixed pu_root (fns_cons is_Root fns_nil)) 2 fun xs x hw h => ?_
  unfold g_Root at h
  split at h
  · rename_i n
    simp only [Option.some.injEq, Prod.mk.injEq, true_and] at h
    subst h
    refine ⟨rfl, ?_⟩
    have e : evFn (ctx Try.prog [(48, g_root), (45, g_outside)] [(23, Try.f23)]) 2 23 [.int .i64 n] noHeap 0 outK =
        bif outB n 0 4611686018427387904 then .leaf (.tup [.int .i64 0, .int .i64 3]) else bif decide (0 ≤ n ∧ n ≤ 4611686018427387904) then .leaf (.tup [.int .i64 (rt n), .int .i64 0]) else .fail := by kernel_rfl
    rw [e]
    refine sat_cond (fun h1 => ?_) (fun h1 => sat_cond (fun h2 => ?_) (fun h2 => ?_))
    · have : rtOk n = false := by
        unfold outB at h1; unfold rtOk
        simp at h1
        exact decide_eq_false (by omega)
      refine sat_leaf ?_
      unfold RtV RtE; rw [this]; rfl
    · have : rtOk n = true := h2
      refine sat_leaf ?_
      unfold RtV RtE; rw [this]; rfl
    · have := out_no h1
      have := of_decide_eq_false h2; omega
  · simp at h
end Go.Proofs.Ythgmpjljlpacgaa
/- Contract of turf.First: how many parts there are before the first contact. -/
namespace Go.Proofs.Ythgmpjljlpacgaa
open Go.RowKit Ev
theorem is_First : FnIs Try.prog (16, Try.f16) := ⟨Try.func16, by kernel_rfl, by kernel_rfl⟩

theorem out_false {x lo hi : Int} (h : outB x lo hi = false) : lo ≤ x ∧ x ≤ hi := by
  unfold outB at h
  simp only [Bool.or_eq_false_iff, decide_eq_false_iff_not] at h
  omega
theorem out_true {x lo hi : Int} (h : outB x lo hi = true) : ¬ (lo ≤ x ∧ x ≤ hi) := by
  unfold outB at h
  simp only [Bool.or_eq_true, decide_eq_true_eq] at h
  omega

/-! the loop -/
noncomputable def lb_first : Code := (loopsOf (bodyOf Try.f16)).getD 0 .skip
def lv_first : Lv := { keys := [4, 5, 7, 9, 12, 13, 14, 15, 45, 46], ids := [1, 3], n := 104, nx := 25 }
structure GF where
  r : Int
  n : Int
  vx : Int
  vy : Int
  wx : Int
  wy : Int
  x : Int
  y : Int
  N : Int
  k : Int
def sn_first (g : GF) (a x y k : Int) : Snap := ([.int .i64 g.r, .int .i64 g.n, .ptr 1 0 0 0, .ptr 3 0 0 0, .int .i64 a, .int .i64 0, .int .i64 x, .int .i64 y, .int .i64 g.N, .int .i64 k], [some ⟨35, [.int .i64 g.vx, .int .i64 g.vy], true⟩, some ⟨35, [.int .i64 g.wx, .int .i64 g.wy], true⟩])
def at_first (g : GF) : Snap := sn_first g 0 g.x g.y g.k
def en_first : Snap → Option GF
  | ([.int .i64 r, .int .i64 n, .ptr 1 0 0 0, .ptr 3 0 0 0, .int .i64 0, .int .i64 0, .int .i64 x, .int .i64 y, .int .i64 N, .int .i64 k], [some ⟨35, [.int .i64 vx, .int .i64 vy], true⟩, some ⟨35, [.int .i64 wx, .int .i64 wy], true⟩]) => some ⟨r, n, vx, vy, wx, wy, x, y, N, k⟩
  | _ => none
def inv_first (g : GF) : Bool := decide (0 ≤ g.r ∧ g.r ≤ 131072 ∧ 1 ≤ g.n ∧ g.n ≤ 1024 ∧ g.N = g.n + 1 ∧ 0 ≤ g.k ∧ g.k ≤ g.n + 1 ∧ -8388608 ≤ g.vx - g.wx ∧ g.vx - g.wx ≤ 8388608 ∧ -8388608 ≤ g.vy - g.wy ∧ g.vy - g.wy ≤ 8388608 ∧
  -(8388608 * (g.n + g.k)) ≤ g.x ∧ g.x ≤ 8388608 * (g.n + g.k) ∧ -(8388608 * (g.n + g.k)) ≤ g.y ∧ g.y ≤ 8388608 * (g.n + g.k))
def jF (g : GF) : Nat := fN (g.vx - g.wx) (g.vy - g.wy) (g.r * g.n) (g.N - g.k).toNat g.x g.y
def fin_first (g : GF) : Tree (Exit × Snap) :=
  .br (inv_first g) (.br (Nat.blt (jF g) (g.N - g.k).toNat)
    (.leaf (.ret, sn_first g (g.k + jF g) (g.x + jF g * (g.vx - g.wx)) (g.y + jF g * (g.vy - g.wy)) (g.k + jF g)))
    (.leaf (.exit 0, sn_first g 0 (g.x + jF g * (g.vx - g.wx)) (g.y + jF g * (g.vy - g.wy)) (g.k + jF g)))) .fail
def nx_first (g : GF) : GF := { g with x := g.x + (g.vx - g.wx), y := g.y + (g.vy - g.wy), k := g.k + 1 }

theorem l_first : LoopOk Try.prog lb_first (loopSum lv_first en_first fin_first) := by
  refine loopOk_of (X := ctx Try.prog [(45, g_outside)] []) (ctx_ok mixed pu1 fns_nil) 1 (fun _ => none) (fun _ _ f h => by simp at h) lv_first en_first fin_first at_first (fun g => inv_first g = true) (fun g => (g.N - g.k).toNat) ?_ ?_ ?_ ?_
  · intro v g h
    unfold en_first at h
    split at h
    · simp at h; subst h; rfl
    · simp at h
  · intro g _; rfl
  · intro g R h _
    unfold fin_first at h
    cases hi : inv_first g with
    | true => rfl
    | false => simp [hi, Tree.sat] at h
  · intro g hI _
    have e : evC (α := Exit × Bool × Snap) Try.prog (evFn (ctx Try.prog [(45, g_outside)] []) 1) [(45, g_outside)] 64 (fun _ => none) lb_first (ofSnap lv_first (at_first g)) (fun e s' => .leaf (e, Nat.beq s'.n lv_first.n && snapBd lv_first (snap lv_first s'), snap lv_first s')) =
        bif decide (g.k < g.N) then
          bif !outB g.x (IntKind.i64.wrap (IntKind.i64.wrap (0 - g.r) * g.n)) (IntKind.i64.wrap (g.r * g.n)) then
            bif !outB g.y (IntKind.i64.wrap (IntKind.i64.wrap (0 - g.r) * g.n)) (IntKind.i64.wrap (g.r * g.n)) then
              bif decide (IntKind.i64.wrap (IntKind.i64.wrap (g.x * g.x) + IntKind.i64.wrap (g.y * g.y)) ≤ IntKind.i64.wrap (IntKind.i64.wrap (IntKind.i64.wrap (g.r * g.r) * g.n) * g.n)) then
                .leaf (Exit.ret, true, sn_first g g.k g.x g.y g.k)
              else .leaf (Exit.normal, true, sn_first g 0 (IntKind.i64.wrap (g.x + IntKind.i64.wrap (g.vx - g.wx))) (IntKind.i64.wrap (g.y + IntKind.i64.wrap (g.vy - g.wy))) (IntKind.i64.wrap (g.k + 1)))
            else .leaf (Exit.normal, true, sn_first g 0 (IntKind.i64.wrap (g.x + IntKind.i64.wrap (g.vx - g.wx))) (IntKind.i64.wrap (g.y + IntKind.i64.wrap (g.vy - g.wy))) (IntKind.i64.wrap (g.k + 1)))
          else .leaf (Exit.normal, true, sn_first g 0 (IntKind.i64.wrap (g.x + IntKind.i64.wrap (g.vx - g.wx))) (IntKind.i64.wrap (g.y + IntKind.i64.wrap (g.vy - g.wy))) (IntKind.i64.wrap (g.k + 1)))
        else .leaf (Exit.exit 0, true, sn_first g 0 g.x g.y g.k) := by kernel_rfl
    have hI0 := hI
    unfold inv_first at hI0
    obtain ⟨h1, h2, h3, h4, hN, h5, h6, h7, h8, h9, h10, h11, h12, h13, h14⟩ := of_decide_eq_true hI0
    show (evC (α := Exit × Bool × Snap) Try.prog (evFn (ctx Try.prog [(45, g_outside)] []) 1) [(45, g_outside)] 64 (fun _ => none) lb_first (ofSnap lv_first (at_first g)) (fun e s' => .leaf (e, Nat.beq s'.n lv_first.n && snapBd lv_first (snap lv_first s'), snap lv_first s'))).sat _
    have b1 := mul_bd (a := g.r) (b := g.n) (A := 131072) (B := 1024) (by omega) (by omega) (by omega) (by omega)
    have en : (0 - g.r) * g.n = -(g.r * g.n) := by grind
    have e4 : g.r * g.r * g.n * g.n = (g.r * g.n) * (g.r * g.n) := by grind
    have b2 := mul_bd (a := g.r) (b := g.r) (A := 131072) (B := 131072) (by omega) (by omega) (by omega) (by omega)
    have b3 := mul_bd (a := g.r * g.r) (b := g.n) (A := 131072 * 131072) (B := 1024) (by omega) (by omega) (by omega) (by omega)
    have b4 := mul_bd (a := g.r * g.n) (b := g.r * g.n) (A := 131072 * 1024) (B := 131072 * 1024) (by omega) (by omega) (by omega) (by omega)
    rw [e, wrap_id (n := 0 - g.r) (by omega) (by omega), wrap_id (n := g.r * g.n) (by omega) (by omega), en, wrap_id (n := -(g.r * g.n)) (by omega) (by omega), wrap_id (n := g.r * g.r) (by omega) (by omega), wrap_id (n := g.r * g.r * g.n) (by omega) (by omega), e4, wrap_id (n := (g.r * g.n) * (g.r * g.n)) (by omega) (by omega),
      wrap_id (n := g.vx - g.wx) (by omega) (by omega), wrap_id (n := g.vy - g.wy) (by omega) (by omega), wrap_id (n := g.x + (g.vx - g.wx)) (by omega) (by omega), wrap_id (n := g.y + (g.vy - g.wy)) (by omega) (by omega), wrap_id (n := g.k + 1) (by omega) (by omega)]
    have hstep : g.k < g.N → hit g.x g.y (g.r * g.n) = false → ∃ g' : GF, sn_first g 0 (g.x + (g.vx - g.wx)) (g.y + (g.vy - g.wy)) (g.k + 1) = at_first g' ∧ (WFL (at_first g').1 → inv_first g' = true ∧ (g'.N - g'.k).toNat < (g.N - g.k).toNat ∧ ∀ R, (fin_first g).sat R → (fin_first g').sat R) := by
      intro hk hm
      refine ⟨nx_first g, rfl, fun _ => ?_⟩
      have hI' : inv_first (nx_first g) = true := by
        unfold inv_first nx_first
        exact decide_eq_true ⟨h1, h2, h3, h4, hN, by simp only; omega, by simp only; omega, h7, h8, h9, h10, by simp only; omega, by simp only; omega, by simp only; omega, by simp only; omega⟩
      have ef : (g.N - g.k).toNat = (g.N - (g.k + 1)).toNat + 1 := by omega
      have ej : jF g = jF (nx_first g) + 1 := by
        show fN _ _ _ (g.N - g.k).toNat g.x g.y = fN _ _ _ (g.N - (g.k + 1)).toNat _ _ + 1
        rw [ef, fN_miss hm]; rfl
      refine ⟨hI', by show (g.N - (g.k + 1)).toNat < _; omega, fun R hf => ?_⟩
      unfold fin_first at hf ⊢
      have hf2 := hf.1 hI
      refine ⟨fun _ => ?_, fun h => by rw [hI'] at h; simp at h⟩
      have q1 : (nx_first g).k + (jF (nx_first g) : Int) = g.k + (jF g : Int) := by show g.k + 1 + _ = _; omega
      have q2 : (nx_first g).x + (jF (nx_first g) : Int) * ((nx_first g).vx - (nx_first g).wx) = g.x + (jF g : Int) * (g.vx - g.wx) := by
        show g.x + (g.vx - g.wx) + _ * (g.vx - g.wx) = _
        rw [ej]; grind
      have q3 : (nx_first g).y + (jF (nx_first g) : Int) * ((nx_first g).vy - (nx_first g).wy) = g.y + (jF g : Int) * (g.vy - g.wy) := by
        show g.y + (g.vy - g.wy) + _ * (g.vy - g.wy) = _
        rw [ej]; grind
      have q4 : Nat.blt (jF (nx_first g)) ((nx_first g).N - (nx_first g).k).toNat = Nat.blt (jF g) (g.N - g.k).toNat := by
        show Nat.blt _ (g.N - (g.k + 1)).toNat = _
        rw [Bool.eq_iff_iff, Nat.blt_eq, Nat.blt_eq]; omega
      rw [q1, q2, q3, q4]
      exact hf2
    refine sat_cond (fun k1 => ?_) (fun k1 => ⟨rfl, ?_⟩)
    · have k1' := of_decide_eq_true k1
      have ef : (g.N - g.k).toNat = (g.N - (g.k + 1)).toNat + 1 := by omega
      refine sat_cond (fun k2 => sat_cond (fun k3 => ?_) (fun k3 => ⟨rfl, hstep k1' ?_⟩)) (fun k2 => ⟨rfl, hstep k1' ?_⟩)
      · have c2 := out_false (by simpa using k2)
        have c3 := out_false (by simpa using k3)
        have b5 := mul_bd (a := g.x) (b := g.x) (A := 131072 * 1024) (B := 131072 * 1024) (by omega) (by omega) (by omega) (by omega)
        have b6 := mul_bd (a := g.y) (b := g.y) (A := 131072 * 1024) (B := 131072 * 1024) (by omega) (by omega) (by omega) (by omega)
        rw [wrap_id (n := g.x * g.x) (by omega) (by omega), wrap_id (n := g.y * g.y) (by omega) (by omega), wrap_id (n := g.x * g.x + g.y * g.y) (by omega) (by omega)]
        refine sat_cond (fun k4 => ⟨rfl, fun _ R hf => ?_⟩) (fun k4 => ⟨rfl, hstep k1' ?_⟩)
        · have hh : hit g.x g.y (g.r * g.n) = true := by unfold hit; rw [k2, k3, k4]; rfl
          have ej : jF g = 0 := by unfold jF; rw [ef, fN_hit hh]
          unfold fin_first at hf
          have hf2 := hf.1 hI
          rw [ej] at hf2
          have hf3 := hf2.1 (by rw [Nat.blt_eq]; omega)
          simp only [Int.natCast_zero, Int.zero_mul, Int.add_zero] at hf3
          exact hf3
        · unfold hit; rw [k2, k3, k4]; rfl
      · unfold hit; rw [k2, k3]; rfl
      · unfold hit; rw [k2]; rfl
    · intro _ R hf
      have k1' := of_decide_eq_false k1
      have ef : (g.N - g.k).toNat = 0 := by omega
      have ej : jF g = 0 := by unfold jF; rw [ef]; rfl
      unfold fin_first at hf
      have hf2 := hf.1 hI
      rw [ej, ef] at hf2
      have hf3 := hf2.2 rfl
      simp only [Int.natCast_zero, Int.zero_mul, Int.add_zero] at hf3
      exact hf3

/-! the places: each coordinate's amount is at most 2^22 -/
def fitC (x y : Int) : Bool := decide (max (max (max x (IntKind.i64.wrap (0 - x))) y) (IntKind.i64.wrap (0 - y)) > 4194304)
def fitD (x y : Int) : Bool := decide (min x y < -4194304)
def fpt (x y : Int) : Bool := decide (-4194304 ≤ x ∧ x ≤ 4194304 ∧ -4194304 ≤ y ∧ y ≤ 4194304)
theorem wrap_neg (x : Int) (h1 : -9223372036854775808 ≤ x) (h2 : x ≤ 9223372036854775807) : IntKind.i64.wrap (0 - x) = if x = -9223372036854775808 then x else -x := by
  split
  · rename_i h; subst h; rfl
  · rw [wrap_id (by omega) (by omega)]; omega
theorem fitC_yes {x y : Int} (hx : inK .i64 x) (hy : inK .i64 y) (h : fitC x y = true) : fpt x y = false := by
  simp only [inK, minK, maxK] at hx hy
  unfold fitC at h; unfold fpt
  have h1 := of_decide_eq_true h
  rw [wrap_neg x (by omega) (by omega), wrap_neg y (by omega) (by omega)] at h1
  refine decide_eq_false ?_
  split at h1 <;> split at h1 <;> omega
theorem fitD_yes {x y : Int} (h : fitD x y = true) : fpt x y = false := by
  unfold fitD at h; unfold fpt
  have h1 := of_decide_eq_true h
  refine decide_eq_false ?_
  omega
theorem fit_no {x y : Int} (h : fitC x y = false) (k : fitD x y = false) : fpt x y = true := by
  unfold fitC at h; unfold fitD at k; unfold fpt
  have h1 := of_decide_eq_false h
  have k1 := of_decide_eq_false k
  refine decide_eq_true ?_
  omega
theorem fpt_bd {x y : Int} (h : fpt x y = true) : -4194304 ≤ x ∧ x ≤ 4194304 ∧ -4194304 ≤ y ∧ y ≤ 4194304 := of_decide_eq_true h
theorem fit_sat {α : Type} {R : α → Prop} {x y : Int} {t u : Tree α} (hx : inK .i64 x) (hy : inK .i64 y) (h1 : fpt x y = false → t.sat R) (h2 : fpt x y = true → u.sat R) : (bif fitC x y then t else bif fitD x y then t else u).sat R :=
  sat_cond (fun h => h1 (fitC_yes hx hy h)) (fun h => sat_cond (fun k => h1 (fitD_yes k)) (fun k => h2 (fit_no h k)))

/-- the first contact, and the error -/
def jFs (px py vx vy qx qy wx wy r n : Int) : Nat := fN (vx - wx) (vy - wy) (r * n) (n + 1).toNat (n * (px - qx)) (n * (py - qy))
def Fs (px py vx vy qx qy wx wy r n : Int) : Int × Int :=
  bif fpt px py && (fpt vx vy && (fpt qx qy && fpt wx wy)) then bif outB r 0 131072 || outB n 1 1024 then (0, 3)
    else bif Nat.blt (jFs px py vx vy qx qy wx wy r n) (n + 1).toNat then ((jFs px py vx vy qx qy wx wy r n : Int), 0) else (0, 5)
  else (0, 2)
def g_First : PureT
  | [.agg [.int .i64 px, .int .i64 py], .agg [.int .i64 vx, .int .i64 vy], .agg [.int .i64 qx, .int .i64 qy], .agg [.int .i64 wx, .int .i64 wy], .int .i64 r, .int .i64 n] =>
    some (true, .tup [.int .i64 (Fs px py vx vy qx qy wx wy r n).1, .int .i64 (Fs px py vx vy qx qy wx wy r n).2])
  | _ => none
noncomputable def X_First : Ctx := ctxL Try.prog [(45, g_outside)] [(16, Try.f16), (47, Try.f47)] [((16, Ev.keyOf lb_first), loopSum lv_first en_first fin_first)]
theorem loops_among {P : Program} {f : Nat} {fn : Func} {lb : Code} {sum : St → Tree (Exit × St)} {fns : List (Nat × Func)} (h1 : loopsOf (bodyOf fn) = [lb]) (h2 : LoopOk P lb sum) (h3 : ∀ p ∈ fns, p.1 = f → p.2 = fn) :
    ∀ p ∈ fns, ∀ d ∈ loopsOf (bodyOf p.2), ∀ g, assoc2 [((f, Ev.keyOf lb), sum)] p.1 (Ev.keyOf d) = some g → LoopOk P d g := by
  intro p hp d hd g hg
  by_cases h : p.1 = f
  · rw [h3 p hp h, h1, List.mem_singleton] at hd
    subst hd
    simp [assoc2, h] at hg
    subst hg
    exact h2
  · have hb : Nat.beq f p.1 = false := by rw [← Bool.not_eq_true, Nat.beq_eq]; exact fun x => h x.symm
    simp [assoc2, hb] at hg
theorem X_First_ok : CtxOk X_First := by
  refine ctxL_ok mixed pu1 (fns_cons is_First (fns_cons is_fits fns_nil)) (loops_among (fn := Try.f16) (by kernel_rfl) l_first ?_)
  intro p hp h
  simp only [List.mem_cons, List.not_mem_nil, or_false] at hp
  rcases hp with rfl | rfl
  · rfl
  · exact absurd h (by decide)

theorem p_First : PureOk Try.prog 16 g_First := by
  refine pureOk_of_ev X_First_ok 3 fun xs x hw h => ?_
  unfold g_First at h
  split at h
  · rename_i px py vx vy qx qy wx wy r n
    simp only [Option.some.injEq, Prod.mk.injEq, true_and] at h
    subst h
    simp only [WFL, WF, and_true] at hw
    obtain ⟨⟨a1, a2⟩, ⟨a3, a4⟩, ⟨a5, a6⟩, ⟨a7, a8⟩, a9, a10⟩ := hw
    refine ⟨rfl, ?_⟩
    have e : evFn X_First 3 16 [.agg [.int .i64 px, .int .i64 py], .agg [.int .i64 vx, .int .i64 vy], .agg [.int .i64 qx, .int .i64 qy], .agg [.int .i64 wx, .int .i64 wy], .int .i64 r, .int .i64 n] noHeap 0 outK =
        bif fitC px py then .leaf (.tup [.int .i64 0, .int .i64 2]) else bif fitD px py then .leaf (.tup [.int .i64 0, .int .i64 2]) else
        bif fitC vx vy then .leaf (.tup [.int .i64 0, .int .i64 2]) else bif fitD vx vy then .leaf (.tup [.int .i64 0, .int .i64 2]) else
        bif fitC qx qy then .leaf (.tup [.int .i64 0, .int .i64 2]) else bif fitD qx qy then .leaf (.tup [.int .i64 0, .int .i64 2]) else
        bif fitC wx wy then .leaf (.tup [.int .i64 0, .int .i64 2]) else bif fitD wx wy then .leaf (.tup [.int .i64 0, .int .i64 2]) else
        bif outB r 0 131072 then .leaf (.tup [.int .i64 0, .int .i64 3]) else bif outB n 1 1024 then .leaf (.tup [.int .i64 0, .int .i64 3]) else
        let g : GF := ⟨r, n, vx, vy, wx, wy, IntKind.i64.wrap (n * IntKind.i64.wrap (px - qx)), IntKind.i64.wrap (n * IntKind.i64.wrap (py - qy)), IntKind.i64.wrap (n + 1), 0⟩
        bif inv_first g then bif Nat.blt (jF g) (g.N - g.k).toNat then .leaf (.tup [.int .i64 (g.k + (jF g : Int)), .int .i64 0]) else .leaf (.tup [.int .i64 0, .int .i64 5]) else .fail := by kernel_rfl
    rw [e]
    refine fit_sat a1 a2 (fun k => ?_) (fun k1 => fit_sat a3 a4 (fun k => ?_) (fun k2 => fit_sat a5 a6 (fun k => ?_) (fun k3 => fit_sat a7 a8 (fun k => ?_) (fun k4 => sat_cond (fun k => ?_) (fun k5 => sat_cond (fun k => ?_) (fun k6 => ?_))))))
    · refine sat_leaf ?_
      unfold Fs; rw [k]; rfl
    · refine sat_leaf ?_
      unfold Fs; rw [k1, k]; rfl
    · refine sat_leaf ?_
      unfold Fs; rw [k1, k2, k]; rfl
    · refine sat_leaf ?_
      unfold Fs; rw [k1, k2, k3, k]; rfl
    · refine sat_leaf ?_
      unfold Fs; rw [k1, k2, k3, k4, k]; rfl
    · refine sat_leaf ?_
      unfold Fs; rw [k1, k2, k3, k4, k5, k]; rfl
    · have c1 := fpt_bd k1
      have c2 := fpt_bd k2
      have c3 := fpt_bd k3
      have c4 := fpt_bd k4
      have c5 := out_false k5
      have c6 := out_false k6
      have b1 := mul_bd (a := n) (b := px - qx) (A := n) (B := 8388608) (by omega) (by omega) (by omega) (by omega)
      have b2 := mul_bd (a := n) (b := py - qy) (A := n) (B := 8388608) (by omega) (by omega) (by omega) (by omega)
      rw [wrap_id (n := px - qx) (by omega) (by omega), wrap_id (n := py - qy) (by omega) (by omega), wrap_id (n := n * (px - qx)) (by omega) (by omega), wrap_id (n := n * (py - qy)) (by omega) (by omega), wrap_id (n := n + 1) (by omega) (by omega)]
      have hI : inv_first ⟨r, n, vx, vy, wx, wy, n * (px - qx), n * (py - qy), n + 1, 0⟩ = true := by
        unfold inv_first
        refine decide_eq_true ?_
        refine ⟨c5.1, c5.2, c6.1, c6.2, rfl, ?_, ?_, ?_, ?_, ?_, ?_, ?_, ?_, ?_, ?_⟩ <;> dsimp only <;> omega
      have hF : Fs px py vx vy qx qy wx wy r n = bif Nat.blt (jFs px py vx vy qx qy wx wy r n) (n + 1).toNat then ((jFs px py vx vy qx qy wx wy r n : Int), 0) else (0, 5) := by
        unfold Fs; rw [k1, k2, k3, k4, k5, k6]; rfl
      have hj : jF ⟨r, n, vx, vy, wx, wy, n * (px - qx), n * (py - qy), n + 1, 0⟩ = jFs px py vx vy qx qy wx wy r n := by
        unfold jF jFs; simp only [Int.sub_zero]
      simp only [hI, hj, Int.sub_zero, cond_true, Int.zero_add]
      rw [hF]
      refine sat_cond (fun k => ?_) (fun k => ?_) <;> (refine sat_leaf ?_; rw [k]; rfl)
  · simp at h
end Go.Proofs.Ythgmpjljlpacgaa
/- The law TurfContact: plain part, and its walk by the evaluator. For all arguments the law returns true. -/
namespace Go.Proofs.Ythgmpjljlpacgaa
open Go.RowKit Ev
theorem is_TurfContact : FnIs Try.prog (4, Try.f4) := ⟨Try.func4, by kernel_rfl, by kernel_rfl⟩
theorem is_at : FnIs Try.prog (15, Try.f15) := ⟨Try.func15, by kernel_rfl, by kernel_rfl⟩
theorem is_abs : FnIs Try.prog (17, Try.f17) := ⟨Try.func17, by kernel_rfl, by kernel_rfl⟩
def g_abs : PureT
  | [.int .i64 n] => some (true, .int .i64 (max n (IntKind.i64.wrap (0 - n))))
  | _ => none
theorem p_abs : PureOk Try.prog 17 g_abs := by
  refine pureOk_of_ev (ctx_ok mixed puOk_nil (fns_cons is_abs fns_nil)) 2 fun xs x hw h => ?_
  unfold g_abs at h
  split at h
  · rename_i n
    simp only [Option.some.injEq, Prod.mk.injEq, true_and] at h
    subst h
    refine ⟨rfl, ?_⟩
    have e : evFn (ctx Try.prog [] [(17, Try.f17)]) 2 17 [.int .i64 n] noHeap 0 outK = .leaf (.int .i64 (max n (IntKind.i64.wrap (0 - n)))) := by kernel_rfl
    rw [e]
    exact sat_leaf rfl
  · simp at h
theorem inK_i16 {n : Int} (h : inK .i16 n) : -32768 ≤ n ∧ n ≤ 32767 := h
theorem inK_u8 {n : Int} (h : inK .u8 n) : 0 ≤ n ∧ n ≤ 255 := h
def sc (s : Int) : Int := 1 + s.tmod 64
theorem sc_bd {s : Int} (h : inK .u8 s) : 1 ≤ sc s ∧ sc s ≤ 64 := by
  have h' := inK_u8 h
  have a := tm_bd s 64 (by omega)
  have b := Int.tmod_nonneg 64 h'.1
  unfold sc; omega
def g_at : PureT
  | [.agg [.int .i16 x, .int .i16 y], .int .u8 s] => some (true, .agg [.int .i64 (x * sc s), .int .i64 (y * sc s)])
  | _ => none
theorem p_at : PureOk Try.prog 15 g_at := by
  refine pureOk_of_ev (ctx_ok mixed puOk_nil (fns_cons is_at fns_nil)) 2 fun xs x hw h => ?_
  unfold g_at at h
  split at h
  · rename_i x y s
    simp only [Option.some.injEq, Prod.mk.injEq, true_and] at h
    subst h
    simp only [WFL, WF, and_true] at hw
    obtain ⟨⟨hx, hy⟩, hs⟩ := hw
    refine ⟨rfl, ?_⟩
    have e : evFn (ctx Try.prog [] [(15, Try.f15)]) 2 15 [.agg [.int .i16 x, .int .i16 y], .int .u8 s] noHeap 0 outK = .leaf (.agg [.int .i64 (IntKind.i64.wrap (IntKind.i64.wrap x * IntKind.i64.wrap (1 + (IntKind.i64.wrap s).tmod 64))), .int .i64 (IntKind.i64.wrap (IntKind.i64.wrap y * IntKind.i64.wrap (1 + (IntKind.i64.wrap s).tmod 64)))]) := by kernel_rfl
    have b := sc_bd hs
    have hx' := inK_i16 hx
    have hy' := inK_i16 hy
    have hs' := inK_u8 hs
    unfold sc at b
    have b1 := mul_bd (a := x) (b := 1 + s.tmod 64) (A := 32768) (B := 64) (by omega) (by omega) (by omega) (by omega)
    have b2 := mul_bd (a := y) (b := 1 + s.tmod 64) (A := 32768) (B := 64) (by omega) (by omega) (by omega) (by omega)
    rw [e, wrap_id (n := x) (by omega) (by omega), wrap_id (n := y) (by omega) (by omega), wrap_id (n := s) (by omega) (by omega), wrap_id (n := 1 + s.tmod 64) (by omega) (by omega), wrap_id (n := x * (1 + s.tmod 64)) (by omega) (by omega), wrap_id (n := y * (1 + s.tmod 64)) (by omega) (by omega)]
    exact sat_leaf rfl
  · simp at h
noncomputable def lb_contact : Code := (loopsOf (bodyOf Try.f4)).getD 0 .skip
def pl_contact : List (Nat × PureT) := [(15, g_at), (17, g_abs), (16, g_First), (14, g_fine)]
theorem pu_contact : PuOk Try.prog pl_contact := puOk_cons is_at.plain p_at (puOk_cons is_abs.plain p_abs (puOk_cons is_First.plain p_First (puOk_cons is_fine.plain p_fine puOk_nil)))

def lv_contact : Lv := { keys := [5, 14, 15, 16, 17, 18, 19, 21, 24, 25], ids := [16, 17, 18, 19], n := 175, nx := 24 }
structure GC where
  r : Int
  many : Int
  e : Int
  last : Int
  j : Int
  ax : Int
  ay : Int
  bx : Int
  bY : Int
  cx : Int
  cy : Int
  dx : Int
  dy : Int
def pt (x y : Int) : Option Blk := some ⟨35, [.int .i64 x, .int .i64 y], true⟩
def sn_contact (g : GC) (j : Int) : Snap := ([.int .u16 g.r, .bool false, .int .i64 g.many, .ptr 16 0 0 0, .ptr 17 0 0 0, .ptr 18 0 0 0, .ptr 19 0 0 0, .int .i64 g.e, .int .i64 g.last, .int .i64 j], [pt g.ax g.ay, pt g.bx g.bY, pt g.cx g.cy, pt g.dx g.dy])
def at_contact (g : GC) : Snap := sn_contact g g.j
def en_contact : Snap → Option GC
  | ([.int .u16 r, .bool false, .int .i64 many, .ptr 16 0 0 0, .ptr 17 0 0 0, .ptr 18 0 0 0, .ptr 19 0 0 0, .int .i64 e, .int .i64 last, .int .i64 j],
     [some ⟨35, [.int .i64 ax, .int .i64 ay], true⟩, some ⟨35, [.int .i64 bx, .int .i64 bY], true⟩, some ⟨35, [.int .i64 cx, .int .i64 cy], true⟩, some ⟨35, [.int .i64 dx, .int .i64 dy], true⟩]) => some ⟨r, many, e, last, j, ax, ay, bx, bY, cx, cy, dx, dy⟩
  | _ => none
def smol (n : Int) : Prop := -2097152 ≤ n ∧ n ≤ 2097152
instance (n : Int) : Decidable (smol n) := by unfold smol; infer_instance
def xC (g : GC) (j : Int) : Int := g.many * (g.ax - g.cx) + j * (g.bx - g.dx)
def yC (g : GC) (j : Int) : Int := g.many * (g.ay - g.cy) + j * (g.bY - g.dy)
def inv_contact (g : GC) : Bool := decide ((0 ≤ g.r ∧ g.r ≤ 65535 ∧ 1 ≤ g.many ∧ g.many ≤ 100) ∧ (smol g.ax ∧ smol g.ay ∧ smol g.bx ∧ smol g.bY ∧ smol g.cx ∧ smol g.cy ∧ smol g.dx ∧ smol g.dy) ∧
  (0 ≤ g.j ∧ g.j ≤ g.last + 1 ∧ g.j ≤ g.many + 1 ∧ g.last ≤ g.many + 1) ∧ (g.j ≤ g.last → g.last = g.j + (fN (g.bx - g.dx) (g.bY - g.dy) (g.r * g.many) (g.many + 1 - g.j).toNat (xC g g.j) (yC g g.j) : Int)))
def fin_contact (g : GC) : Tree (Exit × Snap) := .br (inv_contact g) (.leaf (.exit 0, sn_contact g (min g.last g.many + 1))) .fail
def nearT {α : Type} (x y m : Int) (q : Bool) (t u : Tree α) : Tree α :=
  bif decide (max x (IntKind.i64.wrap (0 - x)) ≤ m) then bif decide (max y (IntKind.i64.wrap (0 - y)) ≤ m) then
      bif !(decide (IntKind.i64.wrap (IntKind.i64.wrap (x * x) + IntKind.i64.wrap (y * y)) ≤ IntKind.i64.wrap (m * m)) == q) then t else u
    else bif !(false == q) then t else u else bif !(false == q) then t else u
theorem abs_out {x m : Int} (h1 : -9223372036854775807 ≤ x) (h2 : x ≤ 9223372036854775807) : decide (max x (IntKind.i64.wrap (0 - x)) ≤ m) = !outB x (-m) m := by
  rw [wrap_id (by omega) (by omega)]
  unfold outB
  rw [Bool.eq_iff_iff]
  simp only [decide_eq_true_eq, Bool.not_eq_true', Bool.or_eq_false_iff, decide_eq_false_iff_not]
  omega
theorem near_sat {α : Type} {R : α → Prop} {x y m : Int} {q : Bool} {t u : Tree α} (hx1 : -9223372036854775807 ≤ x) (hx2 : x ≤ 9223372036854775807) (hy1 : -9223372036854775807 ≤ y) (hy2 : y ≤ 9223372036854775807) (hm : m ≤ 1000000000)
    (h1 : hit x y m ≠ q → t.sat R) (h2 : hit x y m = q → u.sat R) : (nearT x y m q t u).sat R := by
  unfold nearT
  rw [abs_out hx1 hx2, abs_out hy1 hy2]
  have fin : ∀ b : Bool, hit x y m = b → (bif !(b == q) then t else u).sat R := by
    intro b hb
    refine sat_cond (fun k => h1 ?_) (fun k => h2 ?_)
    · rw [hb]; simpa using k
    · rw [hb]; simpa using k
  refine sat_cond (fun k2 => sat_cond (fun k3 => ?_) (fun k3 => fin false ?_)) (fun k2 => fin false ?_)
  · have c2 := out_false (by simpa using k2)
    have c3 := out_false (by simpa using k3)
    have b5 := mul_bd (a := x) (b := x) (A := 1000000000) (B := 1000000000) (by omega) (by omega) (by omega) (by omega)
    have b6 := mul_bd (a := y) (b := y) (A := 1000000000) (B := 1000000000) (by omega) (by omega) (by omega) (by omega)
    have b7 := mul_bd (a := m) (b := m) (A := 1000000000) (B := 1000000000) (by omega) (by omega) (by omega) (by omega)
    rw [wrap_id (n := x * x) (by omega) (by omega), wrap_id (n := y * y) (by omega) (by omega), wrap_id (n := x * x + y * y) (by omega) (by omega), wrap_id (n := m * m) (by omega) (by omega)]
    refine fin _ ?_
    unfold hit; rw [k2, k3]; rfl
  · unfold hit; rw [k2, k3]; rfl
  · unfold hit; rw [k2]; rfl

theorem l_contact : LoopOk Try.prog lb_contact (loopSum lv_contact en_contact fin_contact) := by
  refine loopOk_of (X := ctx Try.prog pl_contact []) (ctx_ok mixed pu_contact fns_nil) 1 (fun _ => none) (fun _ _ f h => by simp at h) lv_contact en_contact fin_contact at_contact (fun g => inv_contact g = true) (fun g => (g.many + 1 - g.j).toNat) ?_ ?_ ?_ ?_
  · intro v g h
    unfold en_contact at h
    split at h
    · simp at h; subst h; rfl
    · simp at h
  · intro g _; rfl
  · intro g R h _
    unfold fin_contact at h
    cases hi : inv_contact g with
    | true => rfl
    | false => simp [hi, Tree.sat] at h
  · intro g hI _
    have e : evC (α := Exit × Bool × Snap) Try.prog (evFn (ctx Try.prog pl_contact []) 1) pl_contact 64 (fun _ => none) lb_contact (ofSnap lv_contact (at_contact g)) (fun e s' => .leaf (e, Nat.beq s'.n lv_contact.n && snapBd lv_contact (snap lv_contact s'), snap lv_contact s')) =
        bif decide (g.j ≤ g.many) then bif decide (g.j ≤ g.last) then
          nearT (IntKind.i64.wrap (IntKind.i64.wrap (g.many * IntKind.i64.wrap (g.ax - g.cx)) + IntKind.i64.wrap (g.j * IntKind.i64.wrap (g.bx - g.dx)))) (IntKind.i64.wrap (IntKind.i64.wrap (g.many * IntKind.i64.wrap (g.ay - g.cy)) + IntKind.i64.wrap (g.j * IntKind.i64.wrap (g.bY - g.dy))))
            (IntKind.i64.wrap (g.many * IntKind.i64.wrap g.r)) (g.j == g.last) (.leaf (Exit.ret, true, sn_contact g g.j)) (.leaf (Exit.normal, true, sn_contact g (IntKind.i64.wrap (g.j + 1))))
        else .leaf (Exit.exit 0, true, sn_contact g g.j) else .leaf (Exit.exit 0, true, sn_contact g g.j) := by kernel_rfl
    have hI0 := hI
    unfold inv_contact at hI0
    obtain ⟨⟨h1, h2, h3, h4⟩, ⟨s1, s2, s3, s4, s5, s6, s7, s8⟩, ⟨h5, h6, h7, h8⟩, h9⟩ := of_decide_eq_true hI0
    unfold smol at s1 s2 s3 s4 s5 s6 s7 s8
    show (evC (α := Exit × Bool × Snap) Try.prog (evFn (ctx Try.prog pl_contact []) 1) pl_contact 64 (fun _ => none) lb_contact (ofSnap lv_contact (at_contact g)) (fun e s' => .leaf (e, Nat.beq s'.n lv_contact.n && snapBd lv_contact (snap lv_contact s'), snap lv_contact s'))).sat _
    have b1 := mul_bd (a := g.many) (b := g.ax - g.cx) (A := 100) (B := 4194304) (by omega) (by omega) (by omega) (by omega)
    have b2 := mul_bd (a := g.many) (b := g.ay - g.cy) (A := 100) (B := 4194304) (by omega) (by omega) (by omega) (by omega)
    have b3 := mul_bd (a := g.j) (b := g.bx - g.dx) (A := 101) (B := 4194304) (by omega) (by omega) (by omega) (by omega)
    have b4 := mul_bd (a := g.j) (b := g.bY - g.dy) (A := 101) (B := 4194304) (by omega) (by omega) (by omega) (by omega)
    have b5 := mul_bd (a := g.many) (b := g.r) (A := 100) (B := 65535) (by omega) (by omega) (by omega) (by omega)
    rw [e, wrap_id (n := g.ax - g.cx) (by omega) (by omega), wrap_id (n := g.ay - g.cy) (by omega) (by omega), wrap_id (n := g.bx - g.dx) (by omega) (by omega), wrap_id (n := g.bY - g.dy) (by omega) (by omega), wrap_id (n := g.r) (by omega) (by omega),
      wrap_id (n := g.many * (g.ax - g.cx)) (by omega) (by omega), wrap_id (n := g.many * (g.ay - g.cy)) (by omega) (by omega), wrap_id (n := g.j * (g.bx - g.dx)) (by omega) (by omega), wrap_id (n := g.j * (g.bY - g.dy)) (by omega) (by omega),
      wrap_id (n := g.many * (g.ax - g.cx) + g.j * (g.bx - g.dx)) (by omega) (by omega), wrap_id (n := g.many * (g.ay - g.cy) + g.j * (g.bY - g.dy)) (by omega) (by omega), wrap_id (n := g.many * g.r) (by omega) (by omega), wrap_id (n := g.j + 1) (by omega) (by omega), Int.mul_comm g.many g.r]
    rw [Int.mul_comm g.many g.r] at b5
    have hend : min g.last g.many + 1 = g.j → ∀ R : Exit × Snap → Prop, (fin_contact g).sat R → R (Exit.exit 0, sn_contact g g.j) := by
      intro hj R hf
      unfold fin_contact at hf
      have hf2 := hf.1 hI
      rw [hj] at hf2
      exact hf2
    refine sat_cond (fun k1 => sat_cond (fun k2 => ?_) (fun k2 => ⟨rfl, fun _ => hend ?_⟩)) (fun k1 => ⟨rfl, fun _ => hend ?_⟩)
    · have k1' := of_decide_eq_true k1
      have k2' := of_decide_eq_true k2
      have hl := h9 k2'
      have ef : (g.many + 1 - g.j).toNat = (g.many + 1 - (g.j + 1)).toNat + 1 := by omega
      refine near_sat (by omega) (by omega) (by omega) (by omega) (by omega) (fun k3 => ?_) (fun k3 => ⟨rfl, ?_⟩)
      · exfalso
        have k3' : hit (xC g g.j) (yC g g.j) (g.r * g.many) ≠ (g.j == g.last) := k3
        cases hh : hit (xC g g.j) (yC g g.j) (g.r * g.many) with
        | true =>
          rw [ef, fN_hit hh] at hl
          rw [hh] at k3'
          have : g.j = g.last := by omega
          simp [this] at k3'
        | false =>
          rw [ef, fN_miss hh] at hl
          rw [hh] at k3'
          have : g.j = g.last := by simpa using k3'
          omega
      · refine ⟨{ g with j := g.j + 1 }, rfl, fun _ => ?_⟩
        have hI' : inv_contact { g with j := g.j + 1 } = true := by
          unfold inv_contact
          refine decide_eq_true ⟨⟨h1, h2, h3, h4⟩, ⟨s1, s2, s3, s4, s5, s6, s7, s8⟩, ⟨by dsimp only; omega, by dsimp only; omega, by dsimp only; omega, h8⟩, ?_⟩
          dsimp only
          intro hlt
          have k3' : hit (xC g g.j) (yC g g.j) (g.r * g.many) = (g.j == g.last) := k3
          have : (g.j == g.last) = false := by simp; omega
          rw [this] at k3'
          rw [ef, fN_miss k3'] at hl
          have e1 : xC g g.j + (g.bx - g.dx) = xC { g with j := g.j + 1 } (g.j + 1) := by unfold xC; dsimp only; grind
          have e2 : yC g g.j + (g.bY - g.dy) = yC { g with j := g.j + 1 } (g.j + 1) := by unfold yC; dsimp only; grind
          rw [e1, e2] at hl
          omega
        refine ⟨hI', by show (g.many + 1 - (g.j + 1)).toNat < _; omega, fun R hf => ?_⟩
        unfold fin_contact at hf ⊢
        exact ⟨fun _ => hf.1 hI, fun h => by rw [hI'] at h; simp at h⟩
    · have := of_decide_eq_false k2
      omega
    · have := of_decide_eq_false k1
      omega

def tl_contact (g : GC) : Tree Unit :=
  bif inv_contact g then bif decide (g.last ≥ 0) then bif g.e != 0 then .leaf () else bif decide (g.last ≤ g.many) then .leaf () else .fail else .fail else .fail
def t_contact (px py vx vy qx qy wx wy r n : Int) : Tree Unit :=
  bif (Fs px py vx vy qx qy wx wy (IntKind.i64.wrap r) n).1 != (Fs qx qy wx wy px py vx vy (IntKind.i64.wrap r) n).1 then .fail else
  bif (Fs px py vx vy qx qy wx wy (IntKind.i64.wrap r) n).2 != (Fs qx qy wx wy px py vx vy (IntKind.i64.wrap r) n).2 then .fail else
  bif (Fs px py vx vy qx qy wx wy (IntKind.i64.wrap r) n).2 != 0 then bif (Fs px py vx vy qx qy wx wy (IntKind.i64.wrap r) n).2 != 5 then .fail else
    bif (Fs px py vx vy qx qy wx wy (IntKind.i64.wrap r) n).2 == 5 then tl_contact ⟨r, n, (Fs px py vx vy qx qy wx wy (IntKind.i64.wrap r) n).2, IntKind.i64.wrap (n + 1), 0, px, py, vx, vy, qx, qy, wx, wy⟩
    else tl_contact ⟨r, n, (Fs px py vx vy qx qy wx wy (IntKind.i64.wrap r) n).2, (Fs px py vx vy qx qy wx wy (IntKind.i64.wrap r) n).1, 0, px, py, vx, vy, qx, qy, wx, wy⟩
  else bif (Fs px py vx vy qx qy wx wy (IntKind.i64.wrap r) n).2 == 5 then tl_contact ⟨r, n, (Fs px py vx vy qx qy wx wy (IntKind.i64.wrap r) n).2, IntKind.i64.wrap (n + 1), 0, px, py, vx, vy, qx, qy, wx, wy⟩
    else tl_contact ⟨r, n, (Fs px py vx vy qx qy wx wy (IntKind.i64.wrap r) n).2, (Fs px py vx vy qx qy wx wy (IntKind.i64.wrap r) n).1, 0, px, py, vx, vy, qx, qy, wx, wy⟩

theorem smol_fpt {x y : Int} (h : smol x) (k : smol y) : fpt x y = true := by
  unfold smol at h k; unfold fpt
  exact decide_eq_true (by omega)
theorem jFs_swap (px py vx vy qx qy wx wy r n : Int) : jFs qx qy wx wy px py vx vy r n = jFs px py vx vy qx qy wx wy r n := by
  unfold jFs
  have e1 : wx - vx = -(vx - wx) := by omega
  have e2 : wy - vy = -(vy - wy) := by omega
  have e3 : n * (qx - px) = -(n * (px - qx)) := by grind
  have e4 : n * (qy - py) = -(n * (py - qy)) := by grind
  rw [e1, e2, e3, e4, fN_neg]

theorem contact_law (px py vx vy qx qy wx wy r n : Int) (s1 : smol px) (s2 : smol py) (s3 : smol vx) (s4 : smol vy) (s5 : smol qx) (s6 : smol qy) (s7 : smol wx) (s8 : smol wy) (hr1 : 0 ≤ r) (hr2 : r ≤ 65535) (hn1 : 1 ≤ n) (hn2 : n ≤ 100) :
    (t_contact px py vx vy qx qy wx wy r n).sat (fun _ => True) := by
  have o1 : outB r 0 131072 = false := by unfold outB; simp; omega
  have o2 : outB n 1 1024 = false := by unfold outB; simp; omega
  have hF : Fs px py vx vy qx qy wx wy r n = bif Nat.blt (jFs px py vx vy qx qy wx wy r n) (n + 1).toNat then ((jFs px py vx vy qx qy wx wy r n : Int), 0) else (0, 5) := by
    unfold Fs; rw [smol_fpt s1 s2, smol_fpt s3 s4, smol_fpt s5 s6, smol_fpt s7 s8, o1, o2]; rfl
  have hF' : Fs qx qy wx wy px py vx vy r n = Fs px py vx vy qx qy wx wy r n := by
    rw [hF]; unfold Fs; rw [smol_fpt s1 s2, smol_fpt s3 s4, smol_fpt s5 s6, smol_fpt s7 s8, o1, o2, jFs_swap]; rfl
  have hle : jFs px py vx vy qx qy wx wy r n ≤ (n + 1).toNat := fN_le _ _ _ _ _ _
  have hinv : ∀ e : Int, inv_contact ⟨r, n, e, (jFs px py vx vy qx qy wx wy r n : Int), 0, px, py, vx, vy, qx, qy, wx, wy⟩ = true := by
    intro e
    unfold inv_contact
    refine decide_eq_true ⟨⟨hr1, hr2, hn1, hn2⟩, ⟨s1, s2, s3, s4, s5, s6, s7, s8⟩, ⟨by dsimp only; omega, by dsimp only; omega, by dsimp only; omega, by dsimp only; omega⟩, fun _ => ?_⟩
    unfold xC yC jFs
    dsimp only
    simp only [Int.sub_zero, Int.zero_mul, Int.add_zero, Int.zero_add]
  unfold t_contact
  rw [wrap_id (n := r) (by omega) (by omega), hF', wrap_id (n := n + 1) (by omega) (by omega)]
  cases hb : Nat.blt (jFs px py vx vy qx qy wx wy r n) (n + 1).toNat with
  | true =>
    rw [hb, cond_true] at hF
    rw [hF]
    have hj : jFs px py vx vy qx qy wx wy r n < (n + 1).toNat := by simpa using hb
    refine sat_cond (fun k => by simp at k) (fun _ => sat_cond (fun k => by simp at k) (fun _ => sat_cond (fun k => by simp at k) (fun _ => sat_cond (fun k => by simp at k) (fun _ => ?_))))
    unfold tl_contact
    rw [hinv]
    refine sat_cond (fun _ => sat_cond (fun _ => sat_cond (fun _ => trivial) (fun _ => sat_cond (fun _ => trivial) (fun k => ?_))) (fun k => ?_)) (fun k => by simp at k)
    · have := of_decide_eq_false k; dsimp only at this; omega
    · have := of_decide_eq_false k; dsimp only at this; omega
  | false =>
    rw [hb, cond_false] at hF
    have hj : jFs px py vx vy qx qy wx wy r n = (n + 1).toNat := by
      have : ¬ jFs px py vx vy qx qy wx wy r n < (n + 1).toNat := by
        intro h; rw [← Nat.blt_eq, hb] at h; simp at h
      omega
    rw [hF]
    have hi := hinv 5
    rw [hj] at hi
    have e : (((n + 1).toNat : Nat) : Int) = n + 1 := by omega
    rw [e] at hi
    refine sat_cond (fun k => by simp at k) (fun _ => sat_cond (fun k => by simp at k) (fun _ => sat_cond (fun _ => sat_cond (fun k => by simp at k) (fun _ => sat_cond (fun _ => ?_) (fun k => by simp at k))) (fun k => by simp at k)))
    unfold tl_contact
    rw [hi]
    refine sat_cond (fun _ => sat_cond (fun _ => sat_cond (fun _ => trivial) (fun k => by simp at k)) (fun k => ?_)) (fun k => by simp at k)
    have := of_decide_eq_false k; dsimp only at this; omega

noncomputable def X_contact : Ctx := ctxL Try.prog pl_contact [(4, Try.f4)] [((4, Ev.keyOf lb_contact), loopSum lv_contact en_contact fin_contact)]
theorem X_contact_ok : CtxOk X_contact := ctxL_ok mixed pu_contact (fns_cons is_TurfContact fns_nil) (loops_one (by kernel_rfl) l_contact)
theorem smol_sc {x s : Int} (hx : inK .i16 x) (hs : inK .u8 s) : smol (x * sc s) := by
  have h1 := inK_i16 hx
  have h2 := sc_bd hs
  have := mul_bd (a := x) (b := sc s) (A := 32768) (B := 64) (by omega) (by omega) (by omega) (by omega)
  unfold smol; omega

theorem contact_walk (px py vx vy qx qy wx wy s r n : Int) (h1 : inK .i16 px) (h2 : inK .i16 py) (h3 : inK .i16 vx) (h4 : inK .i16 vy) (h5 : inK .i16 qx) (h6 : inK .i16 qy) (h7 : inK .i16 wx) (h8 : inK .i16 wy) (hs : inK .u8 s) (hr : inK .u16 r) (hn : inK .u8 n) (w : World) :
    Calls Try.prog 4 #[.agg #[.int .i16 px, .int .i16 py], .agg #[.int .i16 vx, .int .i16 vy], .agg #[.int .i16 qx, .int .i16 qy], .agg #[.int .i16 wx, .int .i16 wy], .int .u8 s, .int .u16 r, .int .u8 n] w fun e w' => e = .returned (.bool true) ∧ Below w.heap.size w w' := by
  have e : evFn X_contact 3 4 [.agg [.int .i16 px, .int .i16 py], .agg [.int .i16 vx, .int .i16 vy], .agg [.int .i16 qx, .int .i16 qy], .agg [.int .i16 wx, .int .i16 wy], .int .u8 s, .int .u16 r, .int .u8 n] noHeap 0 lawK =
      t_contact (px * sc s) (py * sc s) (vx * sc s) (vy * sc s) (qx * sc s) (qy * sc s) (wx * sc s) (wy * sc s) r (IntKind.i64.wrap (1 + (IntKind.i64.wrap n).tmod 100)) := by kernel_rfl
  refine law_calls (xs := [.agg [.int .i16 px, .int .i16 py], .agg [.int .i16 vx, .int .i16 vy], .agg [.int .i16 qx, .int .i16 qy], .agg [.int .i16 wx, .int .i16 wy], .int .u8 s, .int .u16 r, .int .u8 n])
    (us := [.agg #[.int .i16 px, .int .i16 py], .agg #[.int .i16 vx, .int .i16 vy], .agg #[.int .i16 qx, .int .i16 qy], .agg #[.int .i16 wx, .int .i16 wy], .int .u8 s, .int .u16 r, .int .u8 n]) X_contact_ok 3 ?_ ?_
  · simp only [repL_consI, repL_nilI, rep_aggI, rep_intI, and_true]
    exact ⟨⟨h1, h2⟩, ⟨h3, h4⟩, ⟨h5, h6⟩, ⟨h7, h8⟩, hs, hr, hn⟩
  · have hn' := inK_u8 hn
    have hr' : 0 ≤ r ∧ r ≤ 65535 := hr
    have k1 := tm_bd n 100 (by omega)
    have k2 := Int.tmod_nonneg 100 hn'.1
    rw [e, wrap_id (n := n) (by omega) (by omega), wrap_id (n := 1 + n.tmod 100) (by omega) (by omega)]
    exact contact_law _ _ _ _ _ _ _ _ _ _ (smol_sc h1 hs) (smol_sc h2 hs) (smol_sc h3 hs) (smol_sc h4 hs) (smol_sc h5 hs) (smol_sc h6 hs) (smol_sc h7 hs) (smol_sc h8 hs) hr'.1 hr'.2 (by omega) (by omega)
end Go.Proofs.Ythgmpjljlpacgaa
/- Contracts of turf.square, Square and Towards. -/
namespace Go.Proofs.Ythgmpjljlpacgaa
open Go.RowKit Ev
theorem is_square : FnIs Try.prog (49, Try.f49) := ⟨Try.func49, by kernel_rfl, by kernel_rfl⟩
theorem is_Square : FnIs Try.prog (19, Try.f19) := ⟨Try.func19, by kernel_rfl, by kernel_rfl⟩
theorem is_Towards : FnIs Try.prog (18, Try.f18) := ⟨Try.func18, by kernel_rfl, by kernel_rfl⟩

def g_square : PureT
  | [.agg [.int .i64 ax, .int .i64 ay], .agg [.int .i64 bx, .int .i64 bY]] => some (fpt ax ay && fpt bx bY, .int .i64 (sq ax ay bx bY))
  | _ => none
theorem p_square : PureOk Try.prog 49 g_square := by
  refine pureOk_of_ev (ctx_ok mixed puOk_nil (fns_cons is_square fns_nil)) 2 fun xs x hw h => ?_
  unfold g_square at h
  split at h
  · rename_i ax ay bx bY
    simp only [Option.some.injEq, Prod.mk.injEq] at h
    obtain ⟨hok, rfl⟩ := h
    rw [Bool.and_eq_true] at hok
    have c1 := fpt_bd hok.1
    have c2 := fpt_bd hok.2
    refine ⟨rfl, ?_⟩
    have e : evFn (ctx Try.prog [] [(49, Try.f49)]) 2 49 [.agg [.int .i64 ax, .int .i64 ay], .agg [.int .i64 bx, .int .i64 bY]] noHeap 0 outK =
      .leaf (.int .i64 (IntKind.i64.wrap (IntKind.i64.wrap (IntKind.i64.wrap (bx - ax) * IntKind.i64.wrap (bx - ax)) + IntKind.i64.wrap (IntKind.i64.wrap (bY - ay) * IntKind.i64.wrap (bY - ay))))) := by kernel_rfl
    have b1 := mul_bd (a := bx - ax) (b := bx - ax) (A := 8388608) (B := 8388608) (by omega) (by omega) (by omega) (by omega)
    have b2 := mul_bd (a := bY - ay) (b := bY - ay) (A := 8388608) (B := 8388608) (by omega) (by omega) (by omega) (by omega)
    rw [e, wrap_id (n := bx - ax) (by omega) (by omega), wrap_id (n := bY - ay) (by omega) (by omega), wrap_id (n := (bx - ax) * (bx - ax)) (by omega) (by omega), wrap_id (n := (bY - ay) * (bY - ay)) (by omega) (by omega), wrap_id (n := (bx - ax) * (bx - ax) + (bY - ay) * (bY - ay)) (by omega) (by omega)]
    refine sat_leaf ?_
    unfold sq; rfl
  · simp at h
def pl_sq : List (Nat × PureT) := [(49, g_square), (48, g_root), (46, g_divide), (45, g_outside)]
theorem pu_sq : PuOk Try.prog pl_sq := puOk_cons is_square.plain p_square (puOk_cons is_root.plain p_root pu2)

/-! Square -/
def SqR (ax ay bx bY : Int) : Int × Int := bif fpt ax ay && fpt bx bY then (sq ax ay bx bY, 0) else (0, 2)
def g_Square : PureT
  | [.agg [.int .i64 ax, .int .i64 ay], .agg [.int .i64 bx, .int .i64 bY]] => some (true, .tup [.int .i64 (SqR ax ay bx bY).1, .int .i64 (SqR ax ay bx bY).2])
  | _ => none
theorem p_Square : PureOk Try.prog 19 g_Square := by
  refine pureOk_of_ev (ctx_ok mixed pu_sq (fns_cons is_Square (fns_cons is_fits fns_nil))) 3 fun xs x hw h => ?_
  unfold g_Square at h
  split at h
  · rename_i ax ay bx bY
    simp only [Option.some.injEq, Prod.mk.injEq, true_and] at h
    subst h
    simp only [WFL, WF, and_true] at hw
    obtain ⟨⟨a1, a2⟩, a3, a4⟩ := hw
    refine ⟨rfl, ?_⟩
    have e : evFn (ctx Try.prog pl_sq [(19, Try.f19), (47, Try.f47)]) 3 19 [.agg [.int .i64 ax, .int .i64 ay], .agg [.int .i64 bx, .int .i64 bY]] noHeap 0 outK =
      bif fitC ax ay then .leaf (.tup [.int .i64 0, .int .i64 2]) else bif fitD ax ay then .leaf (.tup [.int .i64 0, .int .i64 2]) else
      bif fitC bx bY then .leaf (.tup [.int .i64 0, .int .i64 2]) else bif fitD bx bY then .leaf (.tup [.int .i64 0, .int .i64 2]) else
      bif fpt ax ay && fpt bx bY then .leaf (.tup [.int .i64 (sq ax ay bx bY), .int .i64 0]) else .fail := by kernel_rfl
    rw [e]
    refine fit_sat a1 a2 (fun k => ?_) (fun k1 => fit_sat a3 a4 (fun k => ?_) (fun k2 => ?_))
    · refine sat_leaf ?_
      unfold SqR; rw [k]; rfl
    · refine sat_leaf ?_
      unfold SqR; rw [k1, k]; rfl
    · rw [k1, k2]
      refine sat_leaf ?_
      unfold SqR; rw [k1, k2]; rfl
  · simp at h

/-! Towards -/
def ToX (px qx d l : Int) : Int := qx + DW (64 * l * (px - qx)) d
def dTo (px py qx qy : Int) : Int := rt (sq px py qx qy * 4096)
def TwR (px py qx qy l : Int) : (Int × Int) × Int :=
  bif fpt px py && fpt qx qy then bif outB l 0 4194304 then ((0, 0), 3) else bif px == qx && py == qy then ((0, 0), 9) else
    bif fpt (ToX px qx (dTo px py qx qy) l) (ToX py qy (dTo px py qx qy) l) then ((ToX px qx (dTo px py qx qy) l, ToX py qy (dTo px py qx qy) l), 0) else ((0, 0), 4)
  else ((0, 0), 2)
def g_Towards : PureT
  | [.agg [.int .i64 px, .int .i64 py], .agg [.int .i64 qx, .int .i64 qy], .int .i64 l] => some (true, .tup [.agg [.int .i64 (TwR px py qx qy l).1.1, .int .i64 (TwR px py qx qy l).1.2], .int .i64 (TwR px py qx qy l).2])
  | _ => none
theorem sq_bd {px py qx qy : Int} (h : fpt px py = true) (k : fpt qx qy = true) : 0 ≤ sq px py qx qy ∧ sq px py qx qy ≤ 140737488355328 := by
  have c1 := fpt_bd h
  have c2 := fpt_bd k
  have b1 := mul_bd (a := qx - px) (b := qx - px) (A := 8388608) (B := 8388608) (by omega) (by omega) (by omega) (by omega)
  have b2 := mul_bd (a := qy - py) (b := qy - py) (A := 8388608) (B := 8388608) (by omega) (by omega) (by omega) (by omega)
  have b3 := self_nn (qx - px)
  have b4 := self_nn (qy - py)
  unfold sq; omega
theorem dTo_bd {px py qx qy : Int} (h : fpt px py = true) (k : fpt qx qy = true) (hne : ¬ (px = qx ∧ py = qy)) : 1 ≤ dTo px py qx qy ∧ dTo px py qx qy ≤ 576460752303423488 := by
  have h1 := sq_bd h k
  have h2 := sq_pos hne
  obtain ⟨r1, r2, r3⟩ := rt_spec (sq px py qx qy * 4096) (by omega)
  unfold dTo
  generalize rt (sq px py qx qy * 4096) = d at r1 r2 r3
  have hd : 1 ≤ d := by
    rcases Int.lt_or_le d 1 with x | x
    · have : d = 0 := by omega
      subst this
      omega
    · exact x
  have := Int.mul_le_mul_of_nonneg_left hd (show 0 ≤ d by omega)
  omega

theorem p_Towards : PureOk Try.prog 18 g_Towards := by
  refine pureOk_of_ev (ctx_ok mixed pu_sq (fns_cons is_Towards (fns_cons is_fits fns_nil))) 3 fun xs x hw h => ?_
  unfold g_Towards at h
  split at h
  · rename_i px py qx qy l
    simp only [Option.some.injEq, Prod.mk.injEq, true_and] at h
    subst h
    simp only [WFL, WF, and_true] at hw
    obtain ⟨⟨a1, a2⟩, ⟨a3, a4⟩, a5⟩ := hw
    refine ⟨rfl, ?_⟩
    have e : evFn (ctx Try.prog pl_sq [(18, Try.f18), (47, Try.f47)]) 3 18 [.agg [.int .i64 px, .int .i64 py], .agg [.int .i64 qx, .int .i64 qy], .int .i64 l] noHeap 0 outK =
      let d := rt (IntKind.i64.wrap (sq px py qx qy * 4096))
      let ux := IntKind.i64.wrap (IntKind.i64.wrap (64 * l) * IntKind.i64.wrap (px - qx))
      let uy := IntKind.i64.wrap (IntKind.i64.wrap (64 * l) * IntKind.i64.wrap (py - qy))
      bif fitC px py then .leaf (.tup [.agg [.int .i64 0, .int .i64 0], .int .i64 2]) else bif fitD px py then .leaf (.tup [.agg [.int .i64 0, .int .i64 0], .int .i64 2]) else
      bif fitC qx qy then .leaf (.tup [.agg [.int .i64 0, .int .i64 0], .int .i64 2]) else bif fitD qx qy then .leaf (.tup [.agg [.int .i64 0, .int .i64 0], .int .i64 2]) else
      bif outB l 0 4194304 then .leaf (.tup [.agg [.int .i64 0, .int .i64 0], .int .i64 3]) else
      bif px == qx && (py == qy && true) then .leaf (.tup [.agg [.int .i64 0, .int .i64 0], .int .i64 9]) else
      bif fpt px py && fpt qx qy then bif decide (0 ≤ IntKind.i64.wrap (sq px py qx qy * 4096) ∧ IntKind.i64.wrap (sq px py qx qy * 4096) ≤ 4611686018427387904) then
      bif dvOk ux d then bif dvOk uy d then
      bif fitC (IntKind.i64.wrap (qx + DW ux d)) (IntKind.i64.wrap (qy + DW uy d)) then .leaf (.tup [.agg [.int .i64 0, .int .i64 0], .int .i64 4]) else bif fitD (IntKind.i64.wrap (qx + DW ux d)) (IntKind.i64.wrap (qy + DW uy d)) then .leaf (.tup [.agg [.int .i64 0, .int .i64 0], .int .i64 4]) else
        .leaf (.tup [.agg [.int .i64 (IntKind.i64.wrap (qx + DW ux d)), .int .i64 (IntKind.i64.wrap (qy + DW uy d))], .int .i64 0])
      else .fail else .fail else .fail else .fail := by kernel_rfl
    rw [e]
    dsimp only
    refine fit_sat a1 a2 (fun k => ?_) (fun k1 => fit_sat a3 a4 (fun k => ?_) (fun k2 => sat_cond (fun k => ?_) (fun k3 => sat_cond (fun k => ?_) (fun k4 => ?_))))
    · refine sat_leaf ?_
      unfold TwR; rw [k]; rfl
    · refine sat_leaf ?_
      unfold TwR; rw [k1, k]; rfl
    · refine sat_leaf ?_
      unfold TwR; rw [k1, k2, k]; rfl
    · refine sat_leaf ?_
      rw [Bool.and_true] at k
      unfold TwR; rw [k1, k2, k3, k]; rfl
    · have c1 := fpt_bd k1
      have c2 := fpt_bd k2
      have c3 := out_false k3
      rw [Bool.and_true] at k4
      have hne : ¬ (px = qx ∧ py = qy) := by
        intro hh; simp [hh.1, hh.2] at k4
      have s1 := sq_bd k1 k2
      have hd := dTo_bd k1 k2 hne
      have b1 := mul_bd (a := 64 * l) (b := px - qx) (A := 268435456) (B := 8388608) (by omega) (by omega) (by omega) (by omega)
      have b2 := mul_bd (a := 64 * l) (b := py - qy) (A := 268435456) (B := 8388608) (by omega) (by omega) (by omega) (by omega)
      rw [wrap_id (n := sq px py qx qy * 4096) (by omega) (by omega), wrap_id (n := 64 * l) (by omega) (by omega), wrap_id (n := px - qx) (by omega) (by omega), wrap_id (n := py - qy) (by omega) (by omega), wrap_id (n := 64 * l * (px - qx)) (by omega) (by omega), wrap_id (n := 64 * l * (py - qy)) (by omega) (by omega)]
      have hdd : rt (sq px py qx qy * 4096) = dTo px py qx qy := rfl
      rw [hdd]
      have w1 := dw_bd (64 * l * (px - qx)) (dTo px py qx qy) 2251799813685248 hd.1 (by omega) (by omega) (by omega)
      have w2 := dw_bd (64 * l * (py - qy)) (dTo px py qx qy) 2251799813685248 hd.1 (by omega) (by omega) (by omega)
      rw [wrap_id (n := qx + DW (64 * l * (px - qx)) (dTo px py qx qy)) (by omega) (by omega), wrap_id (n := qy + DW (64 * l * (py - qy)) (dTo px py qx qy)) (by omega) (by omega)]
      have v1 : dvOk (64 * l * (px - qx)) (dTo px py qx qy) = true := by unfold dvOk; exact decide_eq_true (by omega)
      have v2 : dvOk (64 * l * (py - qy)) (dTo px py qx qy) = true := by unfold dvOk; exact decide_eq_true (by omega)
      rw [k1, k2, v1, v2]
      have v3 : decide (0 ≤ sq px py qx qy * 4096 ∧ sq px py qx qy * 4096 ≤ 4611686018427387904) = true := decide_eq_true (by omega)
      rw [v3]
      have hT : TwR px py qx qy l = bif fpt (ToX px qx (dTo px py qx qy) l) (ToX py qy (dTo px py qx qy) l) then ((ToX px qx (dTo px py qx qy) l, ToX py qy (dTo px py qx qy) l), 0) else ((0, 0), 4) := by
        unfold TwR; rw [k1, k2, k3, k4]; rfl
      rw [hT]
      simp only [cond_true, Bool.and_self]
      refine fit_sat ?_ ?_ (fun k => ?_) (fun k => ?_)
      · simp only [inK, minK, maxK]; omega
      · simp only [inK, minK, maxK]; omega
      · have k' : fpt (ToX px qx (dTo px py qx qy) l) (ToX py qy (dTo px py qx qy) l) = false := k
        rw [k']; exact sat_leaf rfl
      · have k' : fpt (ToX px qx (dTo px py qx qy) l) (ToX py qy (dTo px py qx qy) l) = true := k
        rw [k']; exact sat_leaf rfl
  · simp at h
end Go.Proofs.Ythgmpjljlpacgaa
/- Contracts of the reference roquetref01: Among, Valid, Far, Parted, Sqrt. -/
namespace Go.Proofs.Ythgmpjljlpacgaa
open Go.RowKit Ev
theorem is_Among : FnIs Try.prog (51, Try.f51) := ⟨Try.func51, by kernel_rfl, by kernel_rfl⟩
theorem is_Valid : FnIs Try.prog (50, Try.f50) := ⟨Try.func50, by kernel_rfl, by kernel_rfl⟩
theorem is_Far : FnIs Try.prog (63, Try.f63) := ⟨Try.func63, by kernel_rfl, by kernel_rfl⟩
theorem is_Parted : FnIs Try.prog (53, Try.f53) := ⟨Try.func53, by kernel_rfl, by kernel_rfl⟩
theorem is_Sqrt : FnIs Try.prog (54, Try.f54) := ⟨Try.func54, by kernel_rfl, by kernel_rfl⟩

def g_Among : PureT
  | [.int .i64 a, .int .i64 b, .int .i64 c] => some (true, .bool (!outB a b c))
  | _ => none
theorem p_Among : PureOk Try.prog 51 g_Among := by
  refine pureOk_of_ev (ctx_ok mixed puOk_nil (fns_cons is_Among fns_nil)) 2 fun xs x hw h => ?_
  unfold g_Among at h
  split at h
  · rename_i a b c
    simp only [Option.some.injEq, Prod.mk.injEq, true_and] at h
    subst h
    refine ⟨rfl, ?_⟩
    have e : evFn (ctx Try.prog [] [(51, Try.f51)]) 2 51 [.int .i64 a, .int .i64 b, .int .i64 c] noHeap 0 outK = bif decide (a ≥ b) then .leaf (.bool (decide (a ≤ c))) else .leaf (.bool false) := by kernel_rfl
    rw [e]
    refine sat_cond (fun h1 => ?_) (fun h1 => ?_)
    · have h2 := of_decide_eq_true h1
      refine sat_leaf ?_
      congr 1
      unfold outB
      rw [Bool.eq_iff_iff]
      simp only [decide_eq_true_eq, Bool.not_eq_true', Bool.or_eq_false_iff, decide_eq_false_iff_not]
      omega
    · have h2 := of_decide_eq_false h1
      refine sat_leaf ?_
      congr 1
      have : outB a b c = true := by unfold outB; simp; omega
      rw [this]; rfl
  · simp at h
def pl_am : List (Nat × PureT) := [(51, g_Among)]
theorem pu_am : PuOk Try.prog pl_am := puOk_cons is_Among.plain p_Among puOk_nil

def g_Valid : PureT
  | [.agg [.int .i64 x, .int .i64 y]] => some (true, .bool (fpt x y))
  | _ => none
theorem fpt_out (x y : Int) : fpt x y = (!outB x (-4194304) 4194304 && !outB y (-4194304) 4194304) := by
  unfold fpt outB
  rw [Bool.eq_iff_iff]
  simp only [decide_eq_true_eq, Bool.and_eq_true, Bool.not_eq_true', Bool.or_eq_false_iff, decide_eq_false_iff_not]
  omega
theorem p_Valid : PureOk Try.prog 50 g_Valid := by
  refine pureOk_of_ev (ctx_ok mixed pu_am (fns_cons is_Valid fns_nil)) 2 fun xs x hw h => ?_
  unfold g_Valid at h
  split at h
  · rename_i x y
    simp only [Option.some.injEq, Prod.mk.injEq, true_and] at h
    subst h
    refine ⟨rfl, ?_⟩
    have e : evFn (ctx Try.prog pl_am [(50, Try.f50)]) 2 50 [.agg [.int .i64 x, .int .i64 y]] noHeap 0 outK =
      bif !outB x (-4194304) 4194304 then .leaf (.bool (!outB y (-4194304) 4194304)) else .leaf (.bool false) := by kernel_rfl
    rw [e, fpt_out]
    refine sat_cond (fun h1 => ?_) (fun h1 => ?_) <;> (refine sat_leaf ?_; rw [h1]; rfl)
  · simp at h

def g_Far : PureT
  | [.agg [.int .i64 ax, .int .i64 ay], .agg [.int .i64 bx, .int .i64 bY]] => some (fpt ax ay && fpt bx bY, .int .i64 (sq ax ay bx bY))
  | _ => none
theorem p_Far : PureOk Try.prog 63 g_Far := by
  refine pureOk_of_ev (ctx_ok mixed puOk_nil (fns_cons is_Far fns_nil)) 2 fun xs x hw h => ?_
  unfold g_Far at h
  split at h
  · rename_i ax ay bx bY
    simp only [Option.some.injEq, Prod.mk.injEq] at h
    obtain ⟨hok, rfl⟩ := h
    rw [Bool.and_eq_true] at hok
    have c1 := fpt_bd hok.1
    have c2 := fpt_bd hok.2
    refine ⟨rfl, ?_⟩
    have e : evFn (ctx Try.prog [] [(63, Try.f63)]) 2 63 [.agg [.int .i64 ax, .int .i64 ay], .agg [.int .i64 bx, .int .i64 bY]] noHeap 0 outK =
      .leaf (.int .i64 (IntKind.i64.wrap (IntKind.i64.wrap (IntKind.i64.wrap (ax - bx) * IntKind.i64.wrap (ax - bx)) + IntKind.i64.wrap (IntKind.i64.wrap (ay - bY) * IntKind.i64.wrap (ay - bY))))) := by kernel_rfl
    have b1 := mul_bd (a := ax - bx) (b := ax - bx) (A := 8388608) (B := 8388608) (by omega) (by omega) (by omega) (by omega)
    have b2 := mul_bd (a := ay - bY) (b := ay - bY) (A := 8388608) (B := 8388608) (by omega) (by omega) (by omega) (by omega)
    rw [e, wrap_id (n := ax - bx) (by omega) (by omega), wrap_id (n := ay - bY) (by omega) (by omega), wrap_id (n := (ax - bx) * (ax - bx)) (by omega) (by omega), wrap_id (n := (ay - bY) * (ay - bY)) (by omega) (by omega), wrap_id (n := (ax - bx) * (ax - bx) + (ay - bY) * (ay - bY)) (by omega) (by omega)]
    refine sat_leaf ?_
    have : (ax - bx) * (ax - bx) + (ay - bY) * (ay - bY) = sq ax ay bx bY := by unfold sq; grind
    rw [this]
  · simp at h

/-! Sqrt: by halving -/
noncomputable def lb_sqrt : Code := (loopsOf (bodyOf Try.f54)).getD 0 .skip
def lv_sqrt : Lv := { keys := [0, 2, 3, 4], ids := [], n := 23, nx := 0 }
def at_sqrt (g : Int × Int × Int) : Snap := ([.int .i64 g.1, .int .i64 0, .int .i64 g.2.1, .int .i64 g.2.2], [])
def en_sqrt : Snap → Option (Int × Int × Int)
  | ([.int .i64 n, .int .i64 0, .int .i64 lo, .int .i64 hi], []) => some (n, lo, hi)
  | _ => none
def inv_sqrt (g : Int × Int × Int) : Bool := decide (0 ≤ g.1 ∧ g.1 ≤ 4611686018427387904 ∧ 0 ≤ g.2.1 ∧ g.2.1 ≤ rt g.1 ∧ rt g.1 ≤ g.2.2 ∧ g.2.2 ≤ 2147483648)
def fin_sqrt (g : Int × Int × Int) : Tree (Exit × Snap) := .br (inv_sqrt g) (.leaf (.exit 0, at_sqrt (g.1, rt g.1, rt g.1))) .fail
theorem l_sqrt : LoopOk Try.prog lb_sqrt (loopSum lv_sqrt en_sqrt fin_sqrt) := by
  refine loopOk_of (X := ctx Try.prog [] []) (ctx_ok mixed puOk_nil fns_nil) 1 (fun _ => none) (fun _ _ f h => by simp at h) lv_sqrt en_sqrt fin_sqrt at_sqrt (fun g => inv_sqrt g = true) (fun g => (g.2.2 - g.2.1).toNat) ?_ ?_ ?_ ?_
  · intro v g h
    unfold en_sqrt at h
    split at h
    · simp at h; subst h; rfl
    · simp at h
  · intro g _; rfl
  · intro g R h _
    unfold fin_sqrt at h
    cases hi : inv_sqrt g with
    | true => rfl
    | false => simp [hi, Tree.sat] at h
  · rintro ⟨n, lo, hi⟩ hI _
    have e : evC (α := Exit × Bool × Snap) Try.prog (evFn (ctx Try.prog [] []) 1) [] 64 (fun _ => none) lb_sqrt (ofSnap lv_sqrt (at_sqrt (n, lo, hi))) (fun e s' => .leaf (e, Nat.beq s'.n lv_sqrt.n && snapBd lv_sqrt (snap lv_sqrt s'), snap lv_sqrt s')) =
        let mid := IntKind.i64.wrap ((IntKind.i64.wrap (IntKind.i64.wrap (lo + hi) + 1)).tdiv 2)
        bif decide (lo < hi) then
          bif decide (IntKind.i64.wrap (mid * mid) ≤ n) then .leaf (Exit.normal, true, at_sqrt (n, mid, hi)) else .leaf (Exit.normal, true, at_sqrt (n, lo, IntKind.i64.wrap (mid - 1)))
        else .leaf (Exit.exit 0, true, at_sqrt (n, lo, hi)) := by kernel_rfl
    have hI0 := hI
    unfold inv_sqrt at hI0
    obtain ⟨h1, h2, h3, h4, h5, h6⟩ := of_decide_eq_true hI0
    dsimp only at h1 h2 h3 h4 h5 h6
    obtain ⟨r1, r2, r3⟩ := rt_spec n h1
    show (evC (α := Exit × Bool × Snap) Try.prog (evFn (ctx Try.prog [] []) 1) [] 64 (fun _ => none) lb_sqrt (ofSnap lv_sqrt (at_sqrt (n, lo, hi))) (fun e s' => .leaf (e, Nat.beq s'.n lv_sqrt.n && snapBd lv_sqrt (snap lv_sqrt s'), snap lv_sqrt s'))).sat _
    rw [e]
    dsimp only
    rw [wrap_id (n := lo + hi) (by omega) (by omega), wrap_id (n := lo + hi + 1) (by omega) (by omega), Int.tdiv_eq_ediv_of_nonneg (by omega), wrap_id (n := (lo + hi + 1) / 2) (by omega) (by omega)]
    have hm := mul_bd (a := (lo + hi + 1) / 2) (b := (lo + hi + 1) / 2) (A := 2147483648) (B := 2147483648) (by omega) (by omega) (by omega) (by omega)
    rw [wrap_id (n := (lo + hi + 1) / 2 * ((lo + hi + 1) / 2)) (by omega) (by omega), wrap_id (n := (lo + hi + 1) / 2 - 1) (by omega) (by omega)]
    refine sat_cond (fun k1 => sat_cond (fun k2 => ⟨rfl, (n, (lo + hi + 1) / 2, hi), rfl, fun _ => ?_⟩) (fun k2 => ⟨rfl, (n, lo, (lo + hi + 1) / 2 - 1), rfl, fun _ => ?_⟩)) (fun k1 => ⟨rfl, fun _ R hf => ?_⟩)
    · have k1' := of_decide_eq_true k1
      have k2' := of_decide_eq_true k2
      have hle : (lo + hi + 1) / 2 ≤ rt n := by
        rcases Int.lt_or_le (rt n) ((lo + hi + 1) / 2) with x | x
        · have := sq_le_of_le (a := rt n + 1) (b := (lo + hi + 1) / 2) (by omega) (by omega)
          omega
        · exact x
      have hI' : inv_sqrt (n, (lo + hi + 1) / 2, hi) = true := by
        unfold inv_sqrt; exact decide_eq_true ⟨h1, h2, by dsimp only; omega, hle, h5, h6⟩
      refine ⟨hI', by dsimp only; omega, fun R hf => ?_⟩
      unfold fin_sqrt at hf ⊢
      exact ⟨fun _ => hf.1 hI, fun h => by rw [hI'] at h; simp at h⟩
    · have k1' := of_decide_eq_true k1
      have k2' := of_decide_eq_false k2
      have hle : rt n ≤ (lo + hi + 1) / 2 - 1 := by
        rcases Int.lt_or_le ((lo + hi + 1) / 2 - 1) (rt n) with x | x
        · have := sq_le_of_le (a := (lo + hi + 1) / 2) (b := rt n) (by omega) (by omega)
          omega
        · exact x
      have hI' : inv_sqrt (n, lo, (lo + hi + 1) / 2 - 1) = true := by
        unfold inv_sqrt; exact decide_eq_true ⟨h1, h2, h3, h4, hle, by dsimp only; omega⟩
      refine ⟨hI', by dsimp only; omega, fun R hf => ?_⟩
      unfold fin_sqrt at hf ⊢
      exact ⟨fun _ => hf.1 hI, fun h => by rw [hI'] at h; simp at h⟩
    · have k1' := of_decide_eq_false k1
      have e1 : lo = rt n := by omega
      have e2 : hi = rt n := by omega
      unfold fin_sqrt at hf
      have hf2 : R (Exit.exit 0, at_sqrt (n, rt n, rt n)) := hf.1 hI
      rw [e1, e2]
      exact hf2
noncomputable def X_Sqrt : Ctx := ctxL Try.prog [] [(54, Try.f54)] [((54, Ev.keyOf lb_sqrt), loopSum lv_sqrt en_sqrt fin_sqrt)]
theorem X_Sqrt_ok : CtxOk X_Sqrt := ctxL_ok mixed puOk_nil (fns_cons is_Sqrt fns_nil) (loops_one (by kernel_rfl) l_sqrt)
theorem rt_max {n : Int} (h0 : 0 ≤ n) (h1 : n ≤ 4611686018427387904) : 0 ≤ rt n ∧ rt n ≤ 2147483648 := by
  obtain ⟨r1, r2, r3⟩ := rt_spec n h0
  refine ⟨r1, ?_⟩
  rcases Int.lt_or_le 2147483648 (rt n) with x | x
  · have := sq_le_of_le (a := 2147483649) (b := rt n) (by omega) (by omega)
    omega
  · exact x
theorem p_Sqrt : PureOk Try.prog 54 g_root := by
  refine pureOk_of_ev X_Sqrt_ok 3 fun xs x hw h => ?_
  unfold g_root at h
  split at h
  · rename_i n
    simp only [Option.some.injEq, Prod.mk.injEq] at h
    obtain ⟨hok, rfl⟩ := h
    obtain ⟨h0, h1⟩ := of_decide_eq_true hok
    refine ⟨rfl, ?_⟩
    have e : evFn X_Sqrt 3 54 [.int .i64 n] noHeap 0 outK = bif inv_sqrt (n, 0, 2147483648) then .leaf (.int .i64 (rt n)) else .fail := by kernel_rfl
    rw [e]
    have hb := rt_max h0 h1
    have hi : inv_sqrt (n, 0, 2147483648) = true := by unfold inv_sqrt; exact decide_eq_true (by dsimp only; omega)
    rw [hi]
    exact sat_leaf rfl
  · simp at h
end Go.Proofs.Ythgmpjljlpacgaa
/- Contracts of the reference roquetref01: Parted, First, Towards. -/
namespace Go.Proofs.Ythgmpjljlpacgaa
open Go.RowKit Ev
theorem is_refFirst : FnIs Try.prog (20, Try.f20) := ⟨Try.func20, by kernel_rfl, by kernel_rfl⟩
theorem is_Ahead : FnIs Try.prog (52, Try.f52) := ⟨Try.func52, by kernel_rfl, by kernel_rfl⟩
theorem is_refTowards : FnIs Try.prog (21, Try.f21) := ⟨Try.func21, by kernel_rfl, by kernel_rfl⟩

theorem loops_two {P : Program} {f : Nat} {fn : Func} {lb lc : Code} {s1 s2 : St → Tree (Exit × St)} {fns : List (Nat × Func)} (h1 : loopsOf (bodyOf fn) = [lb, lc]) (hk : Nat.beq (Ev.keyOf lb) (Ev.keyOf lc) = false) (h2 : LoopOk P lb s1) (h2' : LoopOk P lc s2) (h3 : ∀ p ∈ fns, p.1 = f → p.2 = fn) :
    ∀ p ∈ fns, ∀ d ∈ loopsOf (bodyOf p.2), ∀ g, assoc2 [((f, Ev.keyOf lb), s1), ((f, Ev.keyOf lc), s2)] p.1 (Ev.keyOf d) = some g → LoopOk P d g := by
  intro p hp d hd g hg
  by_cases h : p.1 = f
  · rw [h3 p hp h, h1] at hd
    simp only [List.mem_cons, List.not_mem_nil, or_false] at hd
    rcases hd with rfl | rfl
    · simp [assoc2, h] at hg
      subst hg
      exact h2
    · simp [assoc2, h, hk] at hg
      subst hg
      exact h2'
  · have hb : Nat.beq f p.1 = false := by rw [← Bool.not_eq_true, Nat.beq_eq]; exact fun x => h x.symm
    simp [assoc2, hb] at hg

/-! Parted: the quotient, and one more, or one less, for as long as the rest is not in its range -/
noncomputable def lb_p1 : Code := (loopsOf (bodyOf Try.f53)).getD 0 .skip
noncomputable def lb_p2 : Code := (loopsOf (bodyOf Try.f53)).getD 1 .skip
def lv_p : Lv := { keys := [0, 1, 4, 5], ids := [0], n := 37, nx := 1 }
def at_p (g : Int × Int × Int) : Snap := ([.int .i64 g.1, .int .i64 g.2.1, .ptr 0 0 0 0, .int .i64 g.2.2], [some ⟨24, [.int .i64 0, .int .i64 0], true⟩])
def en_p : Snap → Option (Int × Int × Int)
  | ([.int .i64 n, .int .i64 d, .ptr 0 0 0 0, .int .i64 w], [some ⟨24, [.int .i64 0, .int .i64 0], true⟩]) => some (n, d, w)
  | _ => none
def inv_p1 (g : Int × Int × Int) : Bool := dvOk g.1 g.2.1 && decide (DW g.1 g.2.1 - 1 ≤ g.2.2 ∧ g.2.2 ≤ DW g.1 g.2.1 + 1)
def fin_p1 (g : Int × Int × Int) : Tree (Exit × Snap) := .br (inv_p1 g) (.leaf (.exit 0, at_p (g.1, g.2.1, max g.2.2 (DW g.1 g.2.1)))) .fail
def inv_p2 (g : Int × Int × Int) : Bool := dvOk g.1 g.2.1 && decide (DW g.1 g.2.1 ≤ g.2.2 ∧ g.2.2 ≤ DW g.1 g.2.1 + 1)
def fin_p2 (g : Int × Int × Int) : Tree (Exit × Snap) := .br (inv_p2 g) (.leaf (.exit 2, at_p (g.1, g.2.1, DW g.1 g.2.1))) .fail
/-- the rest of a quotient that differs by j from the rounded one -/
theorem rest_off {n d w j : Int} (hd : 1 ≤ d) (hw : w = DW n d + j) : n - w * d = DR n d - j * d := by
  obtain ⟨a, _, _⟩ := dw_spec n d hd
  rw [hw]
  have : (DW n d + j) * d = DW n d * d + j * d := by grind
  omega
theorem p_wraps {n d w : Int} (hok : dvOk n d = true) (h1 : DW n d - 1 ≤ w) (h2 : w ≤ DW n d + 1) :
    IntKind.i64.wrap (2 * IntKind.i64.wrap (n - IntKind.i64.wrap (w * d))) = 2 * (n - w * d) ∧ IntKind.i64.wrap (n - IntKind.i64.wrap (w * d)) = n - w * d ∧ IntKind.i64.wrap (w + 1) = w + 1 ∧ IntKind.i64.wrap (w - 1) = w - 1 ∧ -9223372036854775807 ≤ w ∧ w ≤ 9223372036854775807 := by
  unfold dvOk at hok
  obtain ⟨k1, k2, k3, k4⟩ := of_decide_eq_true hok
  obtain ⟨a1, a2, a3⟩ := dw_spec n d k3
  have hb := dw_bd n d 1152921504606846976 k3 (by omega) (by omega) (by omega)
  have hr : n - w * d = DR n d - (w - DW n d) * d := rest_off k3 (by omega)
  have hj := mul_bd (a := w - DW n d) (b := d) (A := 1) (B := d) (by omega) (by omega) (by omega) (by omega)
  rw [wrap_id (n := w * d) (by omega) (by omega), wrap_id (n := n - w * d) (by omega) (by omega), wrap_id (n := 2 * (n - w * d)) (by omega) (by omega), wrap_id (n := w + 1) (by omega) (by omega), wrap_id (n := w - 1) (by omega) (by omega)]
  exact ⟨rfl, rfl, rfl, rfl, by omega, by omega⟩
theorem l_p1 : LoopOk Try.prog lb_p1 (loopSum lv_p en_p fin_p1) := by
  refine loopOk_of (X := ctx Try.prog [] []) (ctx_ok mixed puOk_nil fns_nil) 1 (fun _ => none) (fun _ _ f h => by simp at h) lv_p en_p fin_p1 at_p (fun g => inv_p1 g = true) (fun g => (DW g.1 g.2.1 + 1 - g.2.2).toNat) ?_ ?_ ?_ ?_
  · intro v g h
    unfold en_p at h
    split at h
    · simp at h; subst h; rfl
    · simp at h
  · intro g _; rfl
  · intro g R h _
    unfold fin_p1 at h
    cases hi : inv_p1 g with
    | true => rfl
    | false => simp [hi, Tree.sat] at h
  · rintro ⟨n, d, w⟩ hI _
    have e : evC (α := Exit × Bool × Snap) Try.prog (evFn (ctx Try.prog [] []) 1) [] 64 (fun _ => none) lb_p1 (ofSnap lv_p (at_p (n, d, w))) (fun e s' => .leaf (e, Nat.beq s'.n lv_p.n && snapBd lv_p (snap lv_p s'), snap lv_p s')) =
        bif decide (IntKind.i64.wrap (2 * IntKind.i64.wrap (n - IntKind.i64.wrap (w * d))) ≥ d) then .leaf (Exit.normal, true, at_p (n, d, IntKind.i64.wrap (w + 1))) else .leaf (Exit.exit 0, true, at_p (n, d, w)) := by kernel_rfl
    have hI0 := hI
    unfold inv_p1 at hI0
    rw [Bool.and_eq_true] at hI0
    obtain ⟨hok, hI1⟩ := hI0
    obtain ⟨h1, h2⟩ := of_decide_eq_true hI1
    dsimp only at hok h1 h2
    obtain ⟨w1, w2, w3, w4, w5⟩ := p_wraps hok h1 h2
    have hok' := hok
    unfold dvOk at hok'
    obtain ⟨k1, k2, k3, k4⟩ := of_decide_eq_true hok'
    obtain ⟨a1, a2, a3⟩ := dw_spec n d k3
    have hr : n - w * d = DR n d - (w - DW n d) * d := rest_off k3 (by omega)
    show (evC (α := Exit × Bool × Snap) Try.prog (evFn (ctx Try.prog [] []) 1) [] 64 (fun _ => none) lb_p1 (ofSnap lv_p (at_p (n, d, w))) (fun e s' => .leaf (e, Nat.beq s'.n lv_p.n && snapBd lv_p (snap lv_p s'), snap lv_p s'))).sat _
    rw [e, w1, w3, hr]
    refine sat_cond (fun q => ⟨rfl, (n, d, w + 1), rfl, fun _ => ?_⟩) (fun q => ⟨rfl, fun _ R hf => ?_⟩)
    · have q' := of_decide_eq_true q
      have hlt : w = DW n d - 1 := by
        rcases (show w = DW n d - 1 ∨ w = DW n d ∨ w = DW n d + 1 by omega) with x | x | x
        · exact x
        · rw [x, Int.sub_self] at q'; omega
        · rw [show w - DW n d = 1 by omega] at q'; omega
      have hI' : inv_p1 (n, d, w + 1) = true := by
        unfold inv_p1; rw [hok]; exact decide_eq_true (by dsimp only; omega)
      refine ⟨hI', by dsimp only; omega, fun R hf => ?_⟩
      unfold fin_p1 at hf ⊢
      refine ⟨fun _ => ?_, fun h => by rw [hI'] at h; simp at h⟩
      have hf2 := hf.1 hI
      dsimp only at hf2 ⊢
      rw [show max (w + 1) (DW n d) = max w (DW n d) by omega]
      exact hf2
    · have q' := of_decide_eq_false q
      have hge : DW n d ≤ w := by
        rcases (show w = DW n d - 1 ∨ DW n d ≤ w by omega) with x | x
        · rw [show w - DW n d = -1 by omega] at q'; omega
        · exact x
      unfold fin_p1 at hf
      have hf2 := hf.1 hI
      dsimp only at hf2
      rw [show max w (DW n d) = w by omega] at hf2
      exact hf2
theorem l_p2 : LoopOk Try.prog lb_p2 (loopSum lv_p en_p fin_p2) := by
  refine loopOk_of (X := ctx Try.prog [] []) (ctx_ok mixed puOk_nil fns_nil) 1 (fun _ => none) (fun _ _ f h => by simp at h) lv_p en_p fin_p2 at_p (fun g => inv_p2 g = true) (fun g => (g.2.2 - DW g.1 g.2.1).toNat) ?_ ?_ ?_ ?_
  · intro v g h
    unfold en_p at h
    split at h
    · simp at h; subst h; rfl
    · simp at h
  · intro g _; rfl
  · intro g R h _
    unfold fin_p2 at h
    cases hi : inv_p2 g with
    | true => rfl
    | false => simp [hi, Tree.sat] at h
  · rintro ⟨n, d, w⟩ hI _
    have e : evC (α := Exit × Bool × Snap) Try.prog (evFn (ctx Try.prog [] []) 1) [] 64 (fun _ => none) lb_p2 (ofSnap lv_p (at_p (n, d, w))) (fun e s' => .leaf (e, Nat.beq s'.n lv_p.n && snapBd lv_p (snap lv_p s'), snap lv_p s')) =
        bif decide (IntKind.i64.wrap (2 * IntKind.i64.wrap (n - IntKind.i64.wrap (w * d))) < IntKind.i64.wrap (0 - d)) then .leaf (Exit.normal, true, at_p (n, d, IntKind.i64.wrap (w - 1))) else .leaf (Exit.exit 2, true, at_p (n, d, w)) := by kernel_rfl
    have hI0 := hI
    unfold inv_p2 at hI0
    rw [Bool.and_eq_true] at hI0
    obtain ⟨hok, hI1⟩ := hI0
    obtain ⟨h1, h2⟩ := of_decide_eq_true hI1
    dsimp only at hok h1 h2
    obtain ⟨w1, w2, w3, w4, w5⟩ := p_wraps hok (by omega) h2
    have hok' := hok
    unfold dvOk at hok'
    obtain ⟨k1, k2, k3, k4⟩ := of_decide_eq_true hok'
    obtain ⟨a1, a2, a3⟩ := dw_spec n d k3
    have hr : n - w * d = DR n d - (w - DW n d) * d := rest_off k3 (by omega)
    show (evC (α := Exit × Bool × Snap) Try.prog (evFn (ctx Try.prog [] []) 1) [] 64 (fun _ => none) lb_p2 (ofSnap lv_p (at_p (n, d, w))) (fun e s' => .leaf (e, Nat.beq s'.n lv_p.n && snapBd lv_p (snap lv_p s'), snap lv_p s'))).sat _
    rw [e, w1, w4, hr, wrap_id (n := 0 - d) (by omega) (by omega)]
    refine sat_cond (fun q => ⟨rfl, (n, d, w - 1), rfl, fun _ => ?_⟩) (fun q => ⟨rfl, fun _ R hf => ?_⟩)
    · have q' := of_decide_eq_true q
      have hlt : w = DW n d + 1 := by
        rcases (show w = DW n d ∨ w = DW n d + 1 by omega) with x | x
        · rw [x, Int.sub_self] at q'; omega
        · exact x
      have hI' : inv_p2 (n, d, w - 1) = true := by
        unfold inv_p2; rw [hok]; exact decide_eq_true (by dsimp only; omega)
      refine ⟨hI', by dsimp only; omega, fun R hf => ?_⟩
      unfold fin_p2 at hf ⊢
      exact ⟨fun _ => hf.1 hI, fun h => by rw [hI'] at h; simp at h⟩
    · have q' := of_decide_eq_false q
      have hge : w = DW n d := by
        rcases (show w = DW n d ∨ w = DW n d + 1 by omega) with x | x
        · exact x
        · rw [show w - DW n d = 1 by omega] at q'; omega
      unfold fin_p2 at hf
      have hf2 := hf.1 hI
      dsimp only at hf2
      rw [← hge] at hf2
      exact hf2
noncomputable def X_Parted : Ctx := ctxL Try.prog [] [(53, Try.f53)] [((53, Ev.keyOf lb_p1), loopSum lv_p en_p fin_p1), ((53, Ev.keyOf lb_p2), loopSum lv_p en_p fin_p2)]
theorem X_Parted_ok : CtxOk X_Parted := ctxL_ok mixed puOk_nil (fns_cons is_Parted fns_nil) (loops_two (fn := Try.f53) (by kernel_rfl) (by kernel_rfl) l_p1 l_p2 (fun p hp _ => by rw [List.mem_singleton] at hp; rw [hp]))
theorem p_Parted : PureOk Try.prog 53 g_divide := by
  refine pureOk_of_ev X_Parted_ok 3 fun xs x hw h => ?_
  unfold g_divide at h
  split at h
  · rename_i n d
    simp only [Option.some.injEq, Prod.mk.injEq] at h
    obtain ⟨hok, rfl⟩ := h
    refine ⟨rfl, ?_⟩
    have e : evFn X_Parted 3 53 [.int .i64 n, .int .i64 d] noHeap 0 outK =
      let w := IntKind.i64.wrap (n.tdiv d)
      bif d != 0 then bif inv_p1 (n, d, w) then bif inv_p2 (n, d, max w (DW n d)) then .leaf (.agg [.int .i64 (DW n d), .int .i64 (IntKind.i64.wrap (n - IntKind.i64.wrap (DW n d * d)))]) else .fail else .fail else .fail := by kernel_rfl
    rw [e]
    dsimp only
    have hok' := hok
    unfold dvOk at hok'
    obtain ⟨k1, k2, k3, k4⟩ := of_decide_eq_true hok'
    have b := td_bd n d 1152921504606846976 k3 (by omega) (by omega)
    have hd : (d != 0) = true := by simp; omega
    rw [wrap_id (n := n.tdiv d) (by omega) (by omega), hd]
    have near : DW n d - 1 ≤ n.tdiv d ∧ n.tdiv d ≤ DW n d + 1 := by
      rcases Int.lt_or_le (2 * n.tmod d) d with x | x
      · rcases Int.lt_or_le (2 * n.tmod d) (-d) with y | y
        · have := (dw_lo n d k3 y).1; omega
        · have := (dw_mid n d k3 x y).1; omega
      · have := (dw_hi n d k3 x).1; omega
    have i1 : inv_p1 (n, d, n.tdiv d) = true := by unfold inv_p1; rw [hok]; exact decide_eq_true near
    have i2 : inv_p2 (n, d, max (n.tdiv d) (DW n d)) = true := by unfold inv_p2; rw [hok]; exact decide_eq_true (by dsimp only; omega)
    rw [i1, i2, (p_wraps hok (w := DW n d) (by omega) (by omega)).2.1]
    refine sat_leaf ?_
    rfl
  · simp at h
end Go.Proofs.Ythgmpjljlpacgaa
