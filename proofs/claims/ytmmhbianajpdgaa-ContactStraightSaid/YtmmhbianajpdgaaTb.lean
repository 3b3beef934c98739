/- Contracts of bits.Len64, turf.root and turf.Root. -/
import Derived.Test.YtmmhbianajpdgaaTa
import Derived.Test.YtmmhbianajpdgaaMb
import Derived.Test.YtmmhbianajpdgaaEl
namespace Go.Proofs.Ytmmhbianajpdgaa
open Go.RowKit Ev

/-! bits.Len64 -/
def tbB : ByteArray := ⟨((List.range 256).map fun i => UInt8.ofNat (if i = 0 then 0 else Nat.log2 i + 1)).toArray⟩
def tabv (i : Nat) : Int := ((tbB.data.toList.getD i 0).toNat : Int)
theorem tbB_get : ∀ i, i < 256 → (tbB.data.toList.getD i 0).toNat = bl i := by decide +kernel
theorem tabv_get (i : Nat) (h : i < 256) : tabv i = bl i := by unfold tabv; rw [tbB_get i h]
attribute [irreducible] tabv tbB
def sh64 (n k : Int) : Int := n.fdiv (2 ^ min (Int.toNat k) IntKind.u64.bits)
def lenC (m s : Int) : Tree AV := bif decide (0 ≤ IntKind.u8.wrap m ∧ IntKind.u8.wrap m < 256) then .leaf (.int .i64 (IntKind.i64.wrap (s + IntKind.i64.wrap (tabv (IntKind.u8.wrap m).toNat)))) else .fail
def lenB (m s : Int) : Tree AV := bif decide (m ≥ 256) then lenC (sh64 m 8) (IntKind.i64.wrap (s + 8)) else lenC m s
def lenA64 (m s : Int) : Tree AV := bif decide (m ≥ 65536) then lenB (sh64 m 16) (IntKind.i64.wrap (s + 16)) else lenB m s
def lenT (n : Int) : Tree AV := bif decide (n ≥ 4294967296) then lenA64 (sh64 n 32) 32 else lenA64 n 0

theorem sh64_nat (n k : Nat) (hk : k ≤ 64) : sh64 (n : Int) (k : Int) = ((n / 2 ^ k : Nat) : Int) := by
  unfold sh64
  have : min (Int.toNat (k : Int)) IntKind.u64.bits = k := by simp [IntKind.bits]; omega
  rw [this, Int.fdiv_eq_ediv_of_nonneg _ (by exact Int.le_of_lt (Int.pow_pos (by decide)))]
  simp
theorem wrap8_nat (m : Nat) (h : m < 256) : IntKind.u8.wrap (m : Int) = m := by
  unfold IntKind.wrap; simp [IntKind.bits, IntKind.signed]; omega
section
attribute [local irreducible] Tree.sat
theorem lenC_ok {R : AV → Prop} (m s : Nat) (hm : m < 256) (hs : s ≤ 56) (h : R (.int .i64 ((s + bl m : Nat) : Int))) : (lenC (m : Int) (s : Int)).sat R := by
  unfold lenC
  rw [wrap8_nat m hm]
  have hb : bl m ≤ 8 := bl_mono_le m 8 (by omega)
  refine sat_cond (fun _ => ?_) (fun h => ?_)
  · rw [Int.toNat_natCast, tabv_get m hm, wrap_id (n := (bl m : Int)) (by omega) (by omega), wrap_id (n := (s : Int) + (bl m : Int)) (by omega) (by omega)]
    refine sat_leaf ?_
    rw [← Int.natCast_add]; exact h
  · have := of_decide_eq_false h; omega
theorem lenB_ok {R : AV → Prop} (m s : Nat) (hm : m < 65536) (hs : s ≤ 48) (h : R (.int .i64 ((s + bl m : Nat) : Int))) : (lenB (m : Int) (s : Int)).sat R := by
  unfold lenB
  refine sat_cond (fun h1 => ?_) (fun h1 => ?_)
  · have h2 := of_decide_eq_true h1
    rw [wrap_id (n := (s : Int) + 8) (by omega) (by omega)]
    have e1 := sh64_nat m 8 (by omega)
    simp only [Int.cast_ofNat_Int] at e1
    rw [e1]
    have e2 : (s : Int) + 8 = ((s + 8 : Nat) : Int) := by simp
    rw [e2]
    refine lenC_ok (m / 2 ^ 8) (s + 8) (by omega) (by omega) ?_
    have := bl_div m 8 (by omega)
    rwa [show s + 8 + bl (m / 2 ^ 8) = s + bl m by omega]
  · have h2 := of_decide_eq_false h1
    exact lenC_ok m s (by omega) (by omega) h
theorem lenA_ok {R : AV → Prop} (m s : Nat) (hm : m < 4294967296) (hs : s ≤ 32) (h : R (.int .i64 ((s + bl m : Nat) : Int))) : (lenA64 (m : Int) (s : Int)).sat R := by
  unfold lenA64
  refine sat_cond (fun h1 => ?_) (fun h1 => ?_)
  · have h2 := of_decide_eq_true h1
    rw [wrap_id (n := (s : Int) + 16) (by omega) (by omega)]
    have e1 := sh64_nat m 16 (by omega)
    simp only [Int.cast_ofNat_Int] at e1
    rw [e1]
    have e2 : (s : Int) + 16 = ((s + 16 : Nat) : Int) := by simp
    rw [e2]
    refine lenB_ok (m / 2 ^ 16) (s + 16) (by omega) (by omega) ?_
    have := bl_div m 16 (by omega)
    rwa [show s + 16 + bl (m / 2 ^ 16) = s + bl m by omega]
  · have h2 := of_decide_eq_false h1
    exact lenB_ok m s (by omega) (by omega) h
theorem lenT_ok {R : AV → Prop} (n : Int) (h0 : 0 ≤ n) (h1 : n ≤ 18446744073709551615) (h : R (.int .i64 (bl n.toNat : Int))) : (lenT n).sat R := by
  obtain ⟨m, rfl⟩ := Int.eq_ofNat_of_zero_le h0
  rw [Int.toNat_natCast] at h
  unfold lenT
  refine sat_cond (fun h1 => ?_) (fun h1 => ?_)
  · have h2 := of_decide_eq_true h1
    have e1 := sh64_nat m 32 (by omega)
    simp only [Int.cast_ofNat_Int] at e1
    rw [e1]
    refine lenA_ok (m / 2 ^ 32) 32 (by omega) (by omega) ?_
    have := bl_div m 32 (by omega)
    rwa [show 32 + bl (m / 2 ^ 32) = bl m by omega]
  · have h2 := of_decide_eq_false h1
    exact lenA_ok m 0 (by omega) (by omega) (by rwa [Nat.zero_add])

end

def g_Len64 : PureT
  | [.int .u64 n] => some (true, .int .i64 (bl n.toNat : Int))
  | _ => none
theorem p_Len64 : PureOk Try.prog 86 g_Len64 := by
  refine pureOk_of_ev (ctx_ok mixed puOk_nil (fns_cons is_Len64 fns_nil)) 2 fun xs x hw h => ?_
  unfold g_Len64 at h
  split at h
  · rename_i n
    simp only [Option.some.injEq, Prod.mk.injEq, true_and] at h
    subst h
    simp only [WFL, WF, and_true] at hw
    obtain ⟨h1, h2⟩ := hw
    refine ⟨rfl, ?_⟩
    have e : evFn (ctx Try.prog [] [(86, Try.f86)]) 2 86 [.int .u64 n] noHeap 0 outK = lenT n := by kernel_rfl
    rw [e]
    exact lenT_ok n h1 h2 rfl
  · simp at h
theorem pu_Len64 : PuOk Try.prog [(86, g_Len64)] := puOk_cons is_Len64.plain p_Len64 puOk_nil

/-! root: of a number from 0 to 2^62 -/
noncomputable def lb_root : Code := (loopsOf (bodyOf Try.f80)).getD 0 .skip
def lv_root : Lv := { keys := [0, 2, 3], ids := [], n := 25, nx := 0 }
def inv_root (n x : Int) : Bool := decide (2 ≤ n ∧ n ≤ 4611686018427387904 ∧ 1 ≤ x ∧ x ≤ 4294967296 ∧ rt n ≤ x)
def at_root (g : Int × Int) : Snap := ([.int .i64 g.1, .int .i64 0, .int .i64 g.2], [])
def en_root : Snap → Option (Int × Int)
  | ([.int .i64 n, .int .i64 0, .int .i64 x], []) => some (n, x)
  | _ => none
def fin_root (g : Int × Int) : Tree (Exit × Snap) := .br (inv_root g.1 g.2) (.leaf (.ret, ([.int .i64 g.1, .int .i64 (rt g.1), .int .i64 (rt g.1)], []))) .fail

theorem l_root : LoopOk Try.prog lb_root (loopSum lv_root en_root fin_root) := by
  refine loopOk_of (X := ctx Try.prog [] []) (ctx_ok mixed puOk_nil fns_nil) 1 (fun _ => none) (fun _ _ f h => by simp at h) lv_root en_root fin_root at_root (fun g => inv_root g.1 g.2 = true) (fun g => g.2.toNat) ?_ ?_ ?_ ?_
  · intro v g h
    unfold en_root at h
    split at h
    · simp at h; subst h; rfl
    · simp at h
  · intro g _; rfl
  · intro g R h _
    unfold fin_root at h
    cases hi : inv_root g.1 g.2 with
    | true => rfl
    | false => simp [hi, Tree.sat] at h
  · rintro ⟨n, x⟩ hI _
    have e : evC (α := Exit × Bool × Snap) Try.prog (evFn (ctx Try.prog [] []) 1) [] 64 (fun _ => none) lb_root (ofSnap lv_root (at_root (n, x))) (fun e s' => .leaf (e, Nat.beq s'.n lv_root.n && snapBd lv_root (snap lv_root s'), snap lv_root s')) =
        bif x != 0 then
          bif decide (IntKind.i64.wrap ((IntKind.i64.wrap (x + IntKind.i64.wrap (n.tdiv x))).tdiv 2) ≥ x) then .leaf (Exit.ret, true, [.int .i64 n, .int .i64 x, .int .i64 x], [])
          else .leaf (Exit.normal, true, [.int .i64 n, .int .i64 0, .int .i64 (IntKind.i64.wrap ((IntKind.i64.wrap (x + IntKind.i64.wrap (n.tdiv x))).tdiv 2))], [])
        else .fail := by kernel_rfl
    have hI0 := hI
    simp only [inv_root] at hI0
    obtain ⟨h1, h2, h3, h4, h5⟩ := of_decide_eq_true hI0
    have hq := Int.ediv_nonneg (show 0 ≤ n by omega) (show 0 ≤ x by omega)
    have hq2 := Int.ediv_le_self x (show 0 ≤ n by omega)
    have e1 : IntKind.i64.wrap ((IntKind.i64.wrap (x + IntKind.i64.wrap (n.tdiv x))).tdiv 2) = (x + n / x) / 2 := by
      rw [Int.tdiv_eq_ediv_of_nonneg (show 0 ≤ n by omega), wrap_id (n := n / x) (by omega) (by omega), wrap_id (n := x + n / x) (by omega) (by omega), Int.tdiv_eq_ediv_of_nonneg (by omega), wrap_id (by omega) (by omega)]
    show (evC (α := Exit × Bool × Snap) Try.prog (evFn (ctx Try.prog [] []) 1) [] 64 (fun _ => none) lb_root (ofSnap lv_root (at_root (n, x))) (fun e s' => .leaf (e, Nat.beq s'.n lv_root.n && snapBd lv_root (snap lv_root s'), snap lv_root s'))).sat _
    rw [e, e1]
    have hge := newton_ge n x (by omega) h3
    refine sat_cond (fun _ => sat_cond (fun h6 => ⟨rfl, ?_⟩) (fun h6 => ⟨rfl, ?_⟩)) (fun h => ?_)
    · have h7 := of_decide_eq_true h6
      have hx := newton_end n x (by omega) h3 h5 (by omega)
      intro _ R hf
      unfold fin_root at hf
      have hf' : R (Exit.ret, ([.int .i64 n, .int .i64 (rt n), .int .i64 (rt n)], [])) := hf.1 hI
      rw [← hx] at hf'
      exact hf'
    · have h7 := of_decide_eq_false h6
      refine ⟨(n, (x + n / x) / 2), rfl, fun _ => ?_⟩
      have hr := (rt_spec n (by omega)).1
      have hpos : 1 ≤ (x + n / x) / 2 := by
        have : 1 ≤ rt n := by
          have hc := (rt_spec n (by omega)).2.2
          rcases Int.lt_or_le (rt n) 1 with k | k
          · have : rt n = 0 := by omega
            rw [this] at hc; omega
          · exact k
        omega
      have hI' : inv_root n ((x + n / x) / 2) = true := by
        unfold inv_root; exact decide_eq_true ⟨h1, h2, hpos, by omega, hge⟩
      refine ⟨hI', by simp only; omega, fun R hf => ?_⟩
      unfold fin_root at hf ⊢
      exact ⟨fun _ => hf.1 hI, fun h => by rw [hI'] at h; simp at h⟩
    · have : x ≠ 0 := by omega
      simp at h; exact absurd h this

def g_root : PureT
  | [.int .i64 n] => some (decide (0 ≤ n ∧ n ≤ 4611686018427387904), .int .i64 (rt n))
  | _ => none
noncomputable def X_root : Ctx := ctxL Try.prog [(86, g_Len64)] [(80, Try.f80)] [((80, Ev.keyOf lb_root), loopSum lv_root en_root fin_root)]
theorem X_root_ok : CtxOk X_root := ctxL_ok mixed pu_Len64 (fns_cons is_root fns_nil) (loops_one (by kernel_rfl) l_root)
theorem rt_small (n : Int) (h0 : 0 ≤ n) (h : n < 2) : rt n = n := rt_unique n n h0 (by rcases (show n = 0 ∨ n = 1 by omega) with rfl | rfl <;> decide) (by rcases (show n = 0 ∨ n = 1 by omega) with rfl | rfl <;> decide)
theorem p_root : PureOk Try.prog 80 g_root := by
  refine pureOk_of_ev X_root_ok 3 fun xs x hw h => ?_
  unfold g_root at h
  split at h
  · rename_i n
    simp only [Option.some.injEq, Prod.mk.injEq] at h
    obtain ⟨hok, rfl⟩ := h
    obtain ⟨h0, h1⟩ := of_decide_eq_true hok
    refine ⟨rfl, ?_⟩
    have e : evFn X_root 3 80 [.int .i64 n] noHeap 0 outK =
        bif decide (n < 2) then .leaf (.int .i64 n)
        else bif decide (0 ≤ IntKind.i64.wrap ((IntKind.i64.wrap ((bl (IntKind.u64.wrap n).toNat : Int) + 1)).tdiv 2)) then
          bif inv_root n (IntKind.i64.wrap (1 * 2 ^ min (IntKind.i64.wrap ((IntKind.i64.wrap ((bl (IntKind.u64.wrap n).toNat : Int) + 1)).tdiv 2)).toNat IntKind.i64.bits)) then .leaf (.int .i64 (rt n)) else .fail
        else .fail := by kernel_rfl
    rw [e]
    have hwr : IntKind.u64.wrap n = n := by unfold IntKind.wrap; simp [IntKind.bits, IntKind.signed]; omega
    have hb : bl n.toNat ≤ 63 := bl_mono_le _ 63 (by omega)
    rw [hwr, wrap_id (n := (bl n.toNat : Int) + 1) (by omega) (by omega), Int.tdiv_eq_ediv_of_nonneg (by omega), wrap_id (n := ((bl n.toNat : Int) + 1) / 2) (by omega) (by omega)]
    refine sat_cond (fun h2 => ?_) (fun h2 => sat_cond (fun h3 => sat_cond (fun h4 => sat_leaf rfl) (fun h4 => ?_)) (fun h3 => ?_))
    · have := of_decide_eq_true h2
      refine sat_leaf ?_
      rw [rt_small n h0 this]
    · have h5 := of_decide_eq_false h2
      exfalso
      have e2 : min (((bl n.toNat : Int) + 1) / 2).toNat IntKind.i64.bits = (bl n.toNat + 1) / 2 := by simp [IntKind.bits]; omega
      rw [e2, Int.one_mul] at h4
      have hs := newton_start n h0
      have hk : (bl n.toNat + 1) / 2 ≤ 32 := by omega
      have hp1 : (1 : Int) ≤ 2 ^ ((bl n.toNat + 1) / 2) := Int.pow_pos (by decide)
      have hp2 : (2 : Int) ^ ((bl n.toNat + 1) / 2) ≤ 4294967296 := by
        have : 2 ^ ((bl n.toNat + 1) / 2) ≤ 2 ^ 32 := Nat.pow_le_pow_right (by decide) hk
        have h6 : ((2 ^ ((bl n.toNat + 1) / 2) : Nat) : Int) ≤ ((2 ^ 32 : Nat) : Int) := by exact_mod_cast this
        rw [Int.natCast_pow] at h6
        simpa using h6
      generalize (2 : Int) ^ ((bl n.toNat + 1) / 2) = y at hs hp1 hp2 h4
      rw [wrap_id (by omega) (by omega)] at h4
      have hr := rt_le n y h0 (by omega) hs
      unfold inv_root at h4
      have := of_decide_eq_false h4
      omega
    · have := of_decide_eq_false h3; omega
  · simp at h
theorem pu_root : PuOk Try.prog [(80, g_root), (79, g_outside)] := puOk_cons is_root.plain p_root pu1

/-! Root -/
def rtOk (n : Int) : Bool := decide (0 ≤ n ∧ n ≤ 4611686018427387904)
def RtV (n : Int) : Int := if rtOk n then rt n else 0
def RtE (n : Int) : Int := if rtOk n then 0 else 3
def g_Root : PureT
  | [.int .i64 n] => some (true, .tup [.int .i64 (RtV n), .int .i64 (RtE n)])
  | _ => none
theorem p_Root : PureOk Try.prog 64 g_Root := by
  refine pureOk_of_ev (ctx_ok mixed pu_root (fns_cons is_Root fns_nil)) 2 fun xs x hw h => ?_
  unfold g_Root at h
  split at h
  · rename_i n
    simp only [Option.some.injEq, Prod.mk.injEq, true_and] at h
    subst h
    refine ⟨rfl, ?_⟩
    have e : evFn (ctx Try.prog [(80, g_root), (79, g_outside)] [(64, Try.f64)]) 2 64 [.int .i64 n] noHeap 0 outK =
        bif outB n 0 4611686018427387904 then .leaf (.tup [.int .i64 0, .int .i64 3]) else bif decide (0 ≤ n ∧ n ≤ 4611686018427387904) then .leaf (.tup [.int .i64 (rt n), .int .i64 0]) else .fail := by kernel_rfl
    rw [e]
    refine sat_cond (fun h1 => ?_) (fun h1 => sat_cond (fun h2 => ?_) (fun h2 => ?_))
    · have : rtOk n = false := by
        unfold outB at h1; unfold rtOk
        simp at h1
        exact decide_eq_false (by omega)
      refine sat_leaf ?_
      unfold RtV RtE; rw [this]; rfl
    · have : rtOk n = true := h2
      refine sat_leaf ?_
      unfold RtV RtE; rw [this]; rfl
    · have := out_no h1
      have := of_decide_eq_false h2; omega
  · simp at h
end Go.Proofs.Ytmmhbianajpdgaa
