/- Contracts of turf.outside, divide, Divide and of the laws' examples: for every input the quotient rounded to the nearest, and the rest. -/
import Derived.Test.YtialgmhhkbdegaaEA
import Derived.Test.YtialgmhhkbdegaaMA
import Derived.Test.YtialgmhhkbdegaaRows
namespace Go.Proofs.Ytialgmhhkbdegaa
open Go.RowKit Ev

theorem mixed : Try.prog.follows .mixedOrders = true := by kernel_rfl
theorem is_outside : FnIs Try.prog (25, Try.f25) := ⟨Try.func25, by kernel_rfl, by kernel_rfl⟩
theorem is_divide : FnIs Try.prog (42, Try.f42) := ⟨Try.func42, by kernel_rfl, by kernel_rfl⟩
theorem is_Divide : FnIs Try.prog (20, Try.f20) := ⟨Try.func20, by kernel_rfl, by kernel_rfl⟩
theorem is_fits : FnIs Try.prog (24, Try.f24) := ⟨Try.func24, by kernel_rfl, by kernel_rfl⟩
theorem is_CheckDisc : FnIs Try.prog (33, Try.f33) := ⟨Try.func33, by kernel_rfl, by kernel_rfl⟩
/-! outside -/
def g_outside : PureT
  | [.int .i64 a, .int .i64 b, .int .i64 c] => some (true, .bool (outB a b c))
  | _ => none
theorem p_outside : PureOk Try.prog 25 g_outside := by
  refine pureOk_of_ev (ctx_ok mixed puOk_nil (fns_cons is_outside fns_nil)) 2 fun xs x hw h => ?_
  unfold g_outside at h
  split at h
  · rename_i a b c
    simp only [Option.some.injEq, Prod.mk.injEq, true_and] at h
    subst h
    refine ⟨rfl, ?_⟩
    have e : evFn (ctx Try.prog [] [(25, Try.f25)]) 2 25 [.int .i64 a, .int .i64 b, .int .i64 c] noHeap 0 outK = bif decide (a < b) then .leaf (.bool true) else .leaf (.bool (decide (a > c))) := by kernel_rfl
    rw [e]
    refine sat_cond (fun h1 => ?_) (fun h1 => ?_) <;> (show AV.bool _ = AV.bool _; unfold outB; rw [h1]; rfl)
  · simp at h
theorem pu1 : PuOk Try.prog [(25, g_outside)] := puOk_cons is_outside.plain p_outside puOk_nil

/-! divide, of a number of amount at most 2^60, by one from 1 to 2^60 -/
def dOk (n d : Int) : Bool := decide (-1152921504606846976 ≤ n ∧ n ≤ 1152921504606846976 ∧ 1 ≤ d ∧ d ≤ 1152921504606846976)
def g_divide : PureT
  | [.int .i64 n, .int .i64 d] => some (dvOk n d, .agg [.int .i64 (DW n d), .int .i64 (DR n d)])
  | _ => none
theorem p_divide : PureOk Try.prog 42 g_divide := by
  refine pureOk_of_ev (ctx_ok mixed puOk_nil (fns_cons is_divide fns_nil)) 2 fun xs x hw h => ?_
  unfold g_divide at h
  split at h
  · rename_i n d
    simp only [Option.some.injEq, Prod.mk.injEq] at h
    obtain ⟨hok, rfl⟩ := h
    unfold dvOk at hok
    obtain ⟨h1, h2, h3, h4⟩ := of_decide_eq_true hok
    refine ⟨rfl, ?_⟩
    have e : evFn (ctx Try.prog [] [(42, Try.f42)]) 2 42 [.int .i64 n, .int .i64 d] noHeap 0 outK =
        bif d != 0 then bif d != 0 then
          bif decide (IntKind.i64.wrap (2 * n.tmod d) ≥ d) then .leaf (.agg [.int .i64 (IntKind.i64.wrap (IntKind.i64.wrap (n.tdiv d) + 1)), .int .i64 (IntKind.i64.wrap (n.tmod d - d))])
          else bif decide (IntKind.i64.wrap (2 * n.tmod d) < IntKind.i64.wrap (0 - d)) then .leaf (.agg [.int .i64 (IntKind.i64.wrap (IntKind.i64.wrap (n.tdiv d) - 1)), .int .i64 (IntKind.i64.wrap (n.tmod d + d))])
          else .leaf (.agg [.int .i64 (IntKind.i64.wrap (n.tdiv d)), .int .i64 (n.tmod d)])
        else .fail else .fail := by kernel_rfl
    rw [e]
    have hd : (d != 0) = true := by simp; omega
    have ⟨k1, k2⟩ := tm_bd n d h3
    have ⟨k3, k4⟩ := td_bd n d 1152921504606846976 h3 h1 h2
    rw [wrap_id (n := 2 * n.tmod d) (by omega) (by omega), wrap_id (n := n.tdiv d) (by omega) (by omega), wrap_id (n := n.tdiv d + 1) (by omega) (by omega), wrap_id (n := n.tdiv d - 1) (by omega) (by omega),
      wrap_id (n := n.tmod d - d) (by omega) (by omega), wrap_id (n := n.tmod d + d) (by omega) (by omega), wrap_id (n := 0 - d) (by omega) (by omega), hd]
    refine sat_cond (fun _ => sat_cond (fun _ => sat_cond (fun h5 => ?_) (fun h5 => sat_cond (fun h6 => ?_) (fun h6 => ?_))) (fun h => by simp at h)) (fun h => by simp at h)
    · obtain ⟨e1, e2⟩ := dw_hi n d h3 (of_decide_eq_true h5)
      show AV.agg _ = AV.agg _
      rw [e1, e2]
    · obtain ⟨e1, e2⟩ := dw_lo n d h3 (by have := of_decide_eq_true h6; omega)
      show AV.agg _ = AV.agg _
      rw [e1, e2]
    · obtain ⟨e1, e2⟩ := dw_mid n d h3 (by have := of_decide_eq_false h5; omega) (by have := of_decide_eq_false h6; omega)
      show AV.agg _ = AV.agg _
      rw [e1, e2]
  · simp at h
theorem pu2 : PuOk Try.prog [(42, g_divide), (25, g_outside)] := puOk_cons is_divide.plain p_divide pu1

/-! Divide -/
def g_Divide : PureT
  | [.int .i64 n, .int .i64 d] => some (true, .tup [.agg [.int .i64 (DvW n d), .int .i64 (DvR n d)], .int .i64 (DvE n d)])
  | _ => none
theorem p_Divide : PureOk Try.prog 20 g_Divide := by
  refine pureOk_of_ev (ctx_ok mixed pu2 (fns_cons is_Divide fns_nil)) 2 fun xs x hw h => ?_
  unfold g_Divide at h
  split at h
  · rename_i n d
    simp only [Option.some.injEq, Prod.mk.injEq, true_and] at h
    subst h
    refine ⟨rfl, ?_⟩
    have e : evFn (ctx Try.prog [(42, g_divide), (25, g_outside)] [(20, Try.f20)]) 2 20 [.int .i64 n, .int .i64 d] noHeap 0 outK =
        bif outB n (-1152921504606846976) 1152921504606846976 then .leaf (.tup [.agg [.int .i64 0, .int .i64 0], .int .i64 3])
        else bif outB d 1 1152921504606846976 then .leaf (.tup [.agg [.int .i64 0, .int .i64 0], .int .i64 3])
        else bif dvOk n d then
          bif (DW n d == 0) && ((DR n d == 0) && true) then .leaf (.tup [.agg [.int .i64 0, .int .i64 0], .int .i64 0])
          else .leaf (.tup [.agg [.int .i64 (DW n d), .int .i64 (DR n d)], .int .i64 0])
        else .fail := by kernel_rfl
    rw [e]
    refine sat_cond (fun h1 => ?_) (fun h1 => sat_cond (fun h2 => ?_) (fun h2 => sat_cond (fun h3 => ?_) (fun h3 => ?_)))
    · obtain ⟨e1, e2, e3⟩ := dv_err1 n d h1
      show AV.tup _ = AV.tup _
      rw [e1, e2, e3]
    · obtain ⟨e1, e2, e3⟩ := dv_err2 n d h2
      show AV.tup _ = AV.tup _
      rw [e1, e2, e3]
    · have ⟨k1, k2⟩ := out_no h1
      have ⟨k3, k4⟩ := out_no h2
      obtain ⟨e1, e2, e3⟩ := dv_ok n d k1 k2 k3 k4
      refine sat_cond (fun h4 => ?_) (fun h4 => ?_)
      · simp at h4
        show AV.tup _ = AV.tup _
        rw [e1, e2, e3, h4.1, h4.2]
      · show AV.tup _ = AV.tup _
        rw [e1, e2, e3]
    · rw [dvOk_out, h1, h2] at h3; simp at h3
  · simp at h
theorem pu3 : PuOk Try.prog [(20, g_Divide), (42, g_divide), (25, g_outside)] := puOk_cons is_Divide.plain p_Divide pu2

/-! the chapter's examples -/
def g_fine : PureT
  | [] => some (true, .bool true)
  | _ => none
end Go.Proofs.Ytialgmhhkbdegaa
/- Contracts of bits.Len64, turf.root and turf.Root. -/
namespace Go.Proofs.Ytialgmhhkbdegaa
open Go.RowKit Ev

/-! bits.Len64 -/
def tbB : ByteArray := ⟨((List.range 256).map fun i => UInt8.ofNat (if i = 0 then 0 else Nat.log2 i + 1)).toArray⟩
def tabv (i : Nat) : Int := ((tbB.data.toList.getD i 0).toNat : Int)
theorem tbB_get : ∀ i, i < 256 → (tbB.data.toList.getD i 0).toNat = bl i := by decide +kernel
theorem tabv_get (i : Nat) (h : i < 256) : tabv i = bl i := by unfold tabv; rw [tbB_get i h]
attribute [irreducible] tabv tbB
def sh64 (n k : Int) : Int := n.fdiv (2 ^ min (Int.toNat k) IntKind.u64.bits)
def lenC (m s : Int) : Tree AV := bif decide (0 ≤ IntKind.u8.wrap m ∧ IntKind.u8.wrap m < 256) then .leaf (.int .i64 (IntKind.i64.wrap (s + IntKind.i64.wrap (tabv (IntKind.u8.wrap m).toNat)))) else .fail
def lenB (m s : Int) : Tree AV := bif decide (m ≥ 256) then lenC (sh64 m 8) (IntKind.i64.wrap (s + 8)) else lenC m s
def lenA64 (m s : Int) : Tree AV := bif decide (m ≥ 65536) then lenB (sh64 m 16) (IntKind.i64.wrap (s + 16)) else lenB m s
def lenT (n : Int) : Tree AV := bif decide (n ≥ 4294967296) then lenA64 (sh64 n 32) 32 else lenA64 n 0

theorem sh64_nat (n k : Nat) (hk : k ≤ 64) : sh64 (n : Int) (k : Int) = ((n / 2 ^ k : Nat) : Int) := by
  unfold sh64
  have : min (Int.toNat (k : Int)) IntKind.u64.bits = k := by simp [IntKind.bits]; omega
  rw [this, Int.fdiv_eq_ediv_of_nonneg _ (by exact Int.le_of_lt (Int.pow_pos (by decide)))]
  simp
theorem wrap8_nat (m : Nat) (h : m < 256) : IntKind.u8.wrap (m : Int) = m := by
  unfold IntKind.wrap; simp [IntKind.bits, IntKind.signed]; omega
section
attribute [local irreducible] Tree.sat
theorem lenC_ok {R : AV → Prop} (m s : Nat) (hm : m < 256) (hs : s ≤ 56) (h : R (.int .i64 ((s + bl m : Nat) : Int))) : (lenC (m : Int) (s : Int)).sat R := by
  unfold lenC
  rw [wrap8_nat m hm]
  have hb : bl m ≤ 8 := bl_mono_le m 8 (by omega)
  refine sat_cond (fun _ => ?_) (fun h => ?_)
  · rw [Int.toNat_natCast, tabv_get m hm, wrap_id (n := (bl m : Int)) (by omega) (by omega), wrap_id (n := (s : Int) + (bl m : Int)) (by omega) (by omega)]
    refine sat_leaf ?_
    rw [← Int.natCast_add]; exact h
  · have := of_decide_eq_false h; omega
theorem lenB_ok {R : AV → Prop} (m s : Nat) (hm : m < 65536) (hs : s ≤ 48) (h : R (.int .i64 ((s + bl m : Nat) : Int))) : (lenB (m : Int) (s : Int)).sat R := by
  unfold lenB
  refine sat_cond (fun h1 => ?_) (fun h1 => ?_)
  · have h2 := of_decide_eq_true h1
    rw [wrap_id (n := (s : Int) + 8) (by omega) (by omega)]
    have e1 := sh64_nat m 8 (by omega)
    simp only [Int.cast_ofNat_Int] at e1
    rw [e1]
    have e2 : (s : Int) + 8 = ((s + 8 : Nat) : Int) := by simp
    rw [e2]
    refine lenC_ok (m / 2 ^ 8) (s + 8) (by omega) (by omega) ?_
    have := bl_div m 8 (by omega)
    rwa [show s + 8 + bl (m / 2 ^ 8) = s + bl m by omega]
  · have h2 := of_decide_eq_false h1
    exact lenC_ok m s (by omega) (by omega) h
theorem lenA_ok {R : AV → Prop} (m s : Nat) (hm : m < 4294967296) (hs : s ≤ 32) (h : R (.int .i64 ((s + bl m : Nat) : Int))) : (lenA64 (m : Int) (s : Int)).sat R := by
  unfold lenA64
  refine sat_cond (fun h1 => ?_) (fun h1 => ?_)
  · have h2 := of_decide_eq_true h1
    rw [wrap_id (n := (s : Int) + 16) (by omega) (by omega)]
    have e1 := sh64_nat m 16 (by omega)
    simp only [Int.cast_ofNat_Int] at e1
    rw [e1]
    have e2 : (s : Int) + 16 = ((s + 16 : Nat) : Int) := by simp
    rw [e2]
    refine lenB_ok (m / 2 ^ 16) (s + 16) (by omega) (by omega) ?_
    have := bl_div m 16 (by omega)
    rwa [show s + 16 + bl (m / 2 ^ 16) = s + bl m by omega]
  · have h2 := of_decide_eq_false h1
    exact lenB_ok m s (by omega) (by omega) h
theorem lenT_ok {R : AV → Prop} (n : Int) (h0 : 0 ≤ n) (h1 : n ≤ 18446744073709551615) (h : R (.int .i64 (bl n.toNat : Int))) : (lenT n).sat R := by
  obtain ⟨m, rfl⟩ := Int.eq_ofNat_of_zero_le h0
  rw [Int.toNat_natCast] at h
  unfold lenT
  refine sat_cond (fun h1 => ?_) (fun h1 => ?_)
  · have h2 := of_decide_eq_true h1
    have e1 := sh64_nat m 32 (by omega)
    simp only [Int.cast_ofNat_Int] at e1
    rw [e1]
    refine lenA_ok (m / 2 ^ 32) 32 (by omega) (by omega) ?_
    have := bl_div m 32 (by omega)
    rwa [show 32 + bl (m / 2 ^ 32) = bl m by omega]
  · have h2 := of_decide_eq_false h1
    exact lenA_ok m 0 (by omega) (by omega) (by rwa [Nat.zero_add])

end

def g_Len64 : PureT
  | [.int .u64 n] => some (true, .int .i64 (bl n.toNat : Int))
  | _ => none
/-! root: of a number from 0 to 2^62 -/
def lv_root : Lv := { keys := [0, 2, 3], ids := [], n := 25, nx := 0 }
def inv_root (n x : Int) : Bool := decide (2 ≤ n ∧ n ≤ 4611686018427387904 ∧ 1 ≤ x ∧ x ≤ 4294967296 ∧ rt n ≤ x)
def at_root (g : Int × Int) : Snap := ([.int .i64 g.1, .int .i64 0, .int .i64 g.2], [])
def en_root : Snap → Option (Int × Int)
  | ([.int .i64 n, .int .i64 0, .int .i64 x], []) => some (n, x)
  | _ => none
def fin_root (g : Int × Int) : Tree (Exit × Snap) := .br (inv_root g.1 g.2) (.leaf (.ret, ([.int .i64 g.1, .int .i64 (rt g.1), .int .i64 (rt g.1)], []))) .fail

def g_root : PureT
  | [.int .i64 n] => some (decide (0 ≤ n ∧ n ≤ 4611686018427387904), .int .i64 (rt n))
  | _ => none
theorem rt_small (n : Int) (h0 : 0 ≤ n) (h : n < 2) : rt n = n := rt_unique n n h0 (by rcases (show n = 0 ∨ n = 1 by omega) with rfl | rfl <;> decide) (by rcases (show n = 0 ∨ n = 1 by omega) with rfl | rfl <;> decide)
/-! Root -/
def rtOk (n : Int) : Bool := decide (0 ≤ n ∧ n ≤ 4611686018427387904)
def RtV (n : Int) : Int := if rtOk n then rt n else 0
def RtE (n : Int) : Int := if rtOk n then 0 else 3
def g_Root : PureT
  | [.int .i64 n] => some (true, .tup [.int .i64 (RtV n), .int .i64 (RtE n)])
  | _ => none
end Go.Proofs.Ytialgmhhkbdegaa
/- Contract of turf.First: how many parts there are before the first contact. -/
namespace Go.Proofs.Ytialgmhhkbdegaa
open Go.RowKit Ev
theorem is_First : FnIs Try.prog (16, Try.f16) := ⟨Try.func16, by kernel_rfl, by kernel_rfl⟩

theorem out_false {x lo hi : Int} (h : outB x lo hi = false) : lo ≤ x ∧ x ≤ hi := by
  unfold outB at h
  simp only [Bool.or_eq_false_iff, decide_eq_false_iff_not] at h
  omega
theorem out_true {x lo hi : Int} (h : outB x lo hi = true) : ¬ (lo ≤ x ∧ x ≤ hi) := by
  unfold outB at h
  simp only [Bool.or_eq_true, decide_eq_true_eq] at h
  omega

/-! the loop -/
noncomputable def lb_first : Code := (loopsOf (bodyOf Try.f16)).getD 0 .skip
def lv_first : Lv := { keys := [4, 5, 7, 9, 12, 13, 14, 15, 45, 46], ids := [1, 3], n := 104, nx := 25 }
structure GF where
  r : Int
  n : Int
  vx : Int
  vy : Int
  wx : Int
  wy : Int
  x : Int
  y : Int
  N : Int
  k : Int
def sn_first (g : GF) (a x y k : Int) : Snap := ([.int .i64 g.r, .int .i64 g.n, .ptr 1 0 0 0, .ptr 3 0 0 0, .int .i64 a, .int .i64 0, .int .i64 x, .int .i64 y, .int .i64 g.N, .int .i64 k], [some ⟨29, [.int .i64 g.vx, .int .i64 g.vy], true⟩, some ⟨29, [.int .i64 g.wx, .int .i64 g.wy], true⟩])
def at_first (g : GF) : Snap := sn_first g 0 g.x g.y g.k
def en_first : Snap → Option GF
  | ([.int .i64 r, .int .i64 n, .ptr 1 0 0 0, .ptr 3 0 0 0, .int .i64 0, .int .i64 0, .int .i64 x, .int .i64 y, .int .i64 N, .int .i64 k], [some ⟨29, [.int .i64 vx, .int .i64 vy], true⟩, some ⟨29, [.int .i64 wx, .int .i64 wy], true⟩]) => some ⟨r, n, vx, vy, wx, wy, x, y, N, k⟩
  | _ => none
def inv_first (g : GF) : Bool := decide (0 ≤ g.r ∧ g.r ≤ 131072 ∧ 1 ≤ g.n ∧ g.n ≤ 1024 ∧ g.N = g.n + 1 ∧ 0 ≤ g.k ∧ g.k ≤ g.n + 1 ∧ -8388608 ≤ g.vx - g.wx ∧ g.vx - g.wx ≤ 8388608 ∧ -8388608 ≤ g.vy - g.wy ∧ g.vy - g.wy ≤ 8388608 ∧
  -(8388608 * (g.n + g.k)) ≤ g.x ∧ g.x ≤ 8388608 * (g.n + g.k) ∧ -(8388608 * (g.n + g.k)) ≤ g.y ∧ g.y ≤ 8388608 * (g.n + g.k))
def jF (g : GF) : Nat := fN (g.vx - g.wx) (g.vy - g.wy) (g.r * g.n) (g.N - g.k).toNat g.x g.y
def fin_first (g : GF) : Tree (Exit × Snap) :=
  .br (inv_first g) (.br (Nat.blt (jF g) (g.N - g.k).toNat)
    (.leaf (.ret, sn_first g (g.k + jF g) (g.x + jF g * (g.vx - g.wx)) (g.y + jF g * (g.vy - g.wy)) (g.k + jF g)))
    (.leaf (.exit 0, sn_first g 0 (g.x + jF g * (g.vx - g.wx)) (g.y + jF g * (g.vy - g.wy)) (g.k + jF g)))) .fail
def nx_first (g : GF) : GF := { g with x := g.x + (g.vx - g.wx), y := g.y + (g.vy - g.wy), k := g.k + 1 }

theorem l_first : LoopOk Try.prog lb_first (loopSum lv_first en_first fin_first) := by
  refine loopOk_of (X := ctx Try.prog [(25, g_outside)] []) (ctx_ok mixed pu1 fns_nil) 1 (fun _ => none) (fun _ _ f h => by simp at h) lv_first en_first fin_first at_first (fun g => inv_first g = true) (fun g => (g.N - g.k).toNat) ?_ ?_ ?_ ?_
  · intro v g h
    unfold en_first at h
    split at h
    · simp at h; subst h; rfl
    · simp at h
  · intro g _; rfl
  · intro g R h _
    unfold fin_first at h
    cases hi : inv_first g with
    | true => rfl
    | false => simp [hi, Tree.sat] at h
  · intro g hI _
    have e : evC (α := Exit × Bool × Snap) Try.prog (evFn (ctx Try.prog [(25, g_outside)] []) 1) [(25, g_outside)] 64 (fun _ => none) lb_first (ofSnap lv_first (at_first g)) (fun e s' => .leaf (e, Nat.beq s'.n lv_first.n && snapBd lv_first (snap lv_first s'), snap lv_first s')) =
        bif decide (g.k < g.N) then
          bif !outB g.x (IntKind.i64.wrap (IntKind.i64.wrap (0 - g.r) * g.n)) (IntKind.i64.wrap (g.r * g.n)) then
            bif !outB g.y (IntKind.i64.wrap (IntKind.i64.wrap (0 - g.r) * g.n)) (IntKind.i64.wrap (g.r * g.n)) then
              bif decide (IntKind.i64.wrap (IntKind.i64.wrap (g.x * g.x) + IntKind.i64.wrap (g.y * g.y)) ≤ IntKind.i64.wrap (IntKind.i64.wrap (IntKind.i64.wrap (g.r * g.r) * g.n) * g.n)) then
                .leaf (Exit.ret, true, sn_first g g.k g.x g.y g.k)
              else .leaf (Exit.normal, true, sn_first g 0 (IntKind.i64.wrap (g.x + IntKind.i64.wrap (g.vx - g.wx))) (IntKind.i64.wrap (g.y + IntKind.i64.wrap (g.vy - g.wy))) (IntKind.i64.wrap (g.k + 1)))
            else .leaf (Exit.normal, true, sn_first g 0 (IntKind.i64.wrap (g.x + IntKind.i64.wrap (g.vx - g.wx))) (IntKind.i64.wrap (g.y + IntKind.i64.wrap (g.vy - g.wy))) (IntKind.i64.wrap (g.k + 1)))
          else .leaf (Exit.normal, true, sn_first g 0 (IntKind.i64.wrap (g.x + IntKind.i64.wrap (g.vx - g.wx))) (IntKind.i64.wrap (g.y + IntKind.i64.wrap (g.vy - g.wy))) (IntKind.i64.wrap (g.k + 1)))
        else .leaf (Exit.exit 0, true, sn_first g 0 g.x g.y g.k) := by kernel_rfl
    have hI0 := hI
    unfold inv_first at hI0
    obtain ⟨h1, h2, h3, h4, hN, h5, h6, h7, h8, h9, h10, h11, h12, h13, h14⟩ := of_decide_eq_true hI0
    show (evC (α := Exit × Bool × Snap) Try.prog (evFn (ctx Try.prog [(25, g_outside)] []) 1) [(25, g_outside)] 64 (fun _ => none) lb_first (ofSnap lv_first (at_first g)) (fun e s' => .leaf (e, Nat.beq s'.n lv_first.n && snapBd lv_first (snap lv_first s'), snap lv_first s'))).sat _
    have b1 := mul_bd (a := g.r) (b := g.n) (A := 131072) (B := 1024) (by omega) (by omega) (by omega) (by omega)
    have en : (0 - g.r) * g.n = -(g.r * g.n) := by grind
    have e4 : g.r * g.r * g.n * g.n = (g.r * g.n) * (g.r * g.n) := by grind
    have b2 := mul_bd (a := g.r) (b := g.r) (A := 131072) (B := 131072) (by omega) (by omega) (by omega) (by omega)
    have b3 := mul_bd (a := g.r * g.r) (b := g.n) (A := 131072 * 131072) (B := 1024) (by omega) (by omega) (by omega) (by omega)
    have b4 := mul_bd (a := g.r * g.n) (b := g.r * g.n) (A := 131072 * 1024) (B := 131072 * 1024) (by omega) (by omega) (by omega) (by omega)
    rw [e, wrap_id (n := 0 - g.r) (by omega) (by omega), wrap_id (n := g.r * g.n) (by omega) (by omega), en, wrap_id (n := -(g.r * g.n)) (by omega) (by omega), wrap_id (n := g.r * g.r) (by omega) (by omega), wrap_id (n := g.r * g.r * g.n) (by omega) (by omega), e4, wrap_id (n := (g.r * g.n) * (g.r * g.n)) (by omega) (by omega),
      wrap_id (n := g.vx - g.wx) (by omega) (by omega), wrap_id (n := g.vy - g.wy) (by omega) (by omega), wrap_id (n := g.x + (g.vx - g.wx)) (by omega) (by omega), wrap_id (n := g.y + (g.vy - g.wy)) (by omega) (by omega), wrap_id (n := g.k + 1) (by omega) (by omega)]
    have hstep : g.k < g.N → hit g.x g.y (g.r * g.n) = false → ∃ g' : GF, sn_first g 0 (g.x + (g.vx - g.wx)) (g.y + (g.vy - g.wy)) (g.k + 1) = at_first g' ∧ (WFL (at_first g').1 → inv_first g' = true ∧ (g'.N - g'.k).toNat < (g.N - g.k).toNat ∧ ∀ R, (fin_first g).sat R → (fin_first g').sat R) := by
      intro hk hm
      refine ⟨nx_first g, rfl, fun _ => ?_⟩
      have hI' : inv_first (nx_first g) = true := by
        unfold inv_first nx_first
        exact decide_eq_true ⟨h1, h2, h3, h4, hN, by simp only; omega, by simp only; omega, h7, h8, h9, h10, by simp only; omega, by simp only; omega, by simp only; omega, by simp only; omega⟩
      have ef : (g.N - g.k).toNat = (g.N - (g.k + 1)).toNat + 1 := by omega
      have ej : jF g = jF (nx_first g) + 1 := by
        show fN _ _ _ (g.N - g.k).toNat g.x g.y = fN _ _ _ (g.N - (g.k + 1)).toNat _ _ + 1
        rw [ef, fN_miss hm]; rfl
      refine ⟨hI', by show (g.N - (g.k + 1)).toNat < _; omega, fun R hf => ?_⟩
      unfold fin_first at hf ⊢
      have hf2 := hf.1 hI
      refine ⟨fun _ => ?_, fun h => by rw [hI'] at h; simp at h⟩
      have q1 : (nx_first g).k + (jF (nx_first g) : Int) = g.k + (jF g : Int) := by show g.k + 1 + _ = _; omega
      have q2 : (nx_first g).x + (jF (nx_first g) : Int) * ((nx_first g).vx - (nx_first g).wx) = g.x + (jF g : Int) * (g.vx - g.wx) := by
        show g.x + (g.vx - g.wx) + _ * (g.vx - g.wx) = _
        rw [ej]; grind
      have q3 : (nx_first g).y + (jF (nx_first g) : Int) * ((nx_first g).vy - (nx_first g).wy) = g.y + (jF g : Int) * (g.vy - g.wy) := by
        show g.y + (g.vy - g.wy) + _ * (g.vy - g.wy) = _
        rw [ej]; grind
      have q4 : Nat.blt (jF (nx_first g)) ((nx_first g).N - (nx_first g).k).toNat = Nat.blt (jF g) (g.N - g.k).toNat := by
        show Nat.blt _ (g.N - (g.k + 1)).toNat = _
        rw [Bool.eq_iff_iff, Nat.blt_eq, Nat.blt_eq]; omega
      rw [q1, q2, q3, q4]
      exact hf2
    refine sat_cond (fun k1 => ?_) (fun k1 => ⟨rfl, ?_⟩)
    · have k1' := of_decide_eq_true k1
      have ef : (g.N - g.k).toNat = (g.N - (g.k + 1)).toNat + 1 := by omega
      refine sat_cond (fun k2 => sat_cond (fun k3 => ?_) (fun k3 => ⟨rfl, hstep k1' ?_⟩)) (fun k2 => ⟨rfl, hstep k1' ?_⟩)
      · have c2 := out_false (by simpa using k2)
        have c3 := out_false (by simpa using k3)
        have b5 := mul_bd (a := g.x) (b := g.x) (A := 131072 * 1024) (B := 131072 * 1024) (by omega) (by omega) (by omega) (by omega)
        have b6 := mul_bd (a := g.y) (b := g.y) (A := 131072 * 1024) (B := 131072 * 1024) (by omega) (by omega) (by omega) (by omega)
        rw [wrap_id (n := g.x * g.x) (by omega) (by omega), wrap_id (n := g.y * g.y) (by omega) (by omega), wrap_id (n := g.x * g.x + g.y * g.y) (by omega) (by omega)]
        refine sat_cond (fun k4 => ⟨rfl, fun _ R hf => ?_⟩) (fun k4 => ⟨rfl, hstep k1' ?_⟩)
        · have hh : hit g.x g.y (g.r * g.n) = true := by unfold hit; rw [k2, k3, k4]; rfl
          have ej : jF g = 0 := by unfold jF; rw [ef, fN_hit hh]
          unfold fin_first at hf
          have hf2 := hf.1 hI
          rw [ej] at hf2
          have hf3 := hf2.1 (by rw [Nat.blt_eq]; omega)
          simp only [Int.natCast_zero, Int.zero_mul, Int.add_zero] at hf3
          exact hf3
        · unfold hit; rw [k2, k3, k4]; rfl
      · unfold hit; rw [k2, k3]; rfl
      · unfold hit; rw [k2]; rfl
    · intro _ R hf
      have k1' := of_decide_eq_false k1
      have ef : (g.N - g.k).toNat = 0 := by omega
      have ej : jF g = 0 := by unfold jF; rw [ef]; rfl
      unfold fin_first at hf
      have hf2 := hf.1 hI
      rw [ej, ef] at hf2
      have hf3 := hf2.2 rfl
      simp only [Int.natCast_zero, Int.zero_mul, Int.add_zero] at hf3
      exact hf3

/-! the places: each coordinate's amount is at most 2^22 -/
def fitC (x y : Int) : Bool := decide (max (max (max x (IntKind.i64.wrap (0 - x))) y) (IntKind.i64.wrap (0 - y)) > 4194304)
def fitD (x y : Int) : Bool := decide (min x y < -4194304)
def fpt (x y : Int) : Bool := decide (-4194304 ≤ x ∧ x ≤ 4194304 ∧ -4194304 ≤ y ∧ y ≤ 4194304)
theorem wrap_neg (x : Int) (h1 : -9223372036854775808 ≤ x) (h2 : x ≤ 9223372036854775807) : IntKind.i64.wrap (0 - x) = if x = -9223372036854775808 then x else -x := by
  split
  · rename_i h; subst h; rfl
  · rw [wrap_id (by omega) (by omega)]; omega
theorem fitC_yes {x y : Int} (hx : inK .i64 x) (hy : inK .i64 y) (h : fitC x y = true) : fpt x y = false := by
  simp only [inK, minK, maxK] at hx hy
  unfold fitC at h; unfold fpt
  have h1 := of_decide_eq_true h
  rw [wrap_neg x (by omega) (by omega), wrap_neg y (by omega) (by omega)] at h1
  refine decide_eq_false ?_
  split at h1 <;> split at h1 <;> omega
theorem fitD_yes {x y : Int} (h : fitD x y = true) : fpt x y = false := by
  unfold fitD at h; unfold fpt
  have h1 := of_decide_eq_true h
  refine decide_eq_false ?_
  omega
theorem fit_no {x y : Int} (h : fitC x y = false) (k : fitD x y = false) : fpt x y = true := by
  unfold fitC at h; unfold fitD at k; unfold fpt
  have h1 := of_decide_eq_false h
  have k1 := of_decide_eq_false k
  refine decide_eq_true ?_
  omega
theorem fpt_bd {x y : Int} (h : fpt x y = true) : -4194304 ≤ x ∧ x ≤ 4194304 ∧ -4194304 ≤ y ∧ y ≤ 4194304 := of_decide_eq_true h
theorem fit_sat {α : Type} {R : α → Prop} {x y : Int} {t u : Tree α} (hx : inK .i64 x) (hy : inK .i64 y) (h1 : fpt x y = false → t.sat R) (h2 : fpt x y = true → u.sat R) : (bif fitC x y then t else bif fitD x y then t else u).sat R :=
  sat_cond (fun h => h1 (fitC_yes hx hy h)) (fun h => sat_cond (fun k => h1 (fitD_yes k)) (fun k => h2 (fit_no h k)))

/-- the first contact, and the error -/
def jFs (px py vx vy qx qy wx wy r n : Int) : Nat := fN (vx - wx) (vy - wy) (r * n) (n + 1).toNat (n * (px - qx)) (n * (py - qy))
def Fs (px py vx vy qx qy wx wy r n : Int) : Int × Int :=
  bif fpt px py && (fpt vx vy && (fpt qx qy && fpt wx wy)) then bif outB r 0 131072 || outB n 1 1024 then (0, 3)
    else bif Nat.blt (jFs px py vx vy qx qy wx wy r n) (n + 1).toNat then ((jFs px py vx vy qx qy wx wy r n : Int), 0) else (0, 5)
  else (0, 2)
def g_First : PureT
  | [.agg [.int .i64 px, .int .i64 py], .agg [.int .i64 vx, .int .i64 vy], .agg [.int .i64 qx, .int .i64 qy], .agg [.int .i64 wx, .int .i64 wy], .int .i64 r, .int .i64 n] =>
    some (true, .tup [.int .i64 (Fs px py vx vy qx qy wx wy r n).1, .int .i64 (Fs px py vx vy qx qy wx wy r n).2])
  | _ => none
noncomputable def X_First : Ctx := ctxL Try.prog [(25, g_outside)] [(16, Try.f16), (24, Try.f24)] [((16, Ev.keyOf lb_first), loopSum lv_first en_first fin_first)]
theorem loops_among {P : Program} {f : Nat} {fn : Func} {lb : Code} {sum : St → Tree (Exit × St)} {fns : List (Nat × Func)} (h1 : loopsOf (bodyOf fn) = [lb]) (h2 : LoopOk P lb sum) (h3 : ∀ p ∈ fns, p.1 = f → p.2 = fn) :
    ∀ p ∈ fns, ∀ d ∈ loopsOf (bodyOf p.2), ∀ g, assoc2 [((f, Ev.keyOf lb), sum)] p.1 (Ev.keyOf d) = some g → LoopOk P d g := by
  intro p hp d hd g hg
  by_cases h : p.1 = f
  · rw [h3 p hp h, h1, List.mem_singleton] at hd
    subst hd
    simp [assoc2, h] at hg
    subst hg
    exact h2
  · have hb : Nat.beq f p.1 = false := by rw [← Bool.not_eq_true, Nat.beq_eq]; exact fun x => h x.symm
    simp [assoc2, hb] at hg
theorem X_First_ok : CtxOk X_First := by
  refine ctxL_ok mixed pu1 (fns_cons is_First (fns_cons is_fits fns_nil)) (loops_among (fn := Try.f16) (by kernel_rfl) l_first ?_)
  intro p hp h
  simp only [List.mem_cons, List.not_mem_nil, or_false] at hp
  rcases hp with rfl | rfl
  · rfl
  · exact absurd h (by decide)

theorem p_First : PureOk Try.prog 16 g_First := by
  refine pureOk_of_ev X_First_ok 3 fun xs x hw h => ?_
  unfold g_First at h
  split at h
  · rename_i px py vx vy qx qy wx wy r n
    simp only [Option.some.injEq, Prod.mk.injEq, true_and] at h
    subst h
    simp only [WFL, WF, and_true] at hw
    obtain ⟨⟨a1, a2⟩, ⟨a3, a4⟩, ⟨a5, a6⟩, ⟨a7, a8⟩, a9, a10⟩ := hw
    refine ⟨rfl, ?_⟩
    have e : evFn X_First 3 16 [.agg [.int .i64 px, .int .i64 py], .agg [.int .i64 vx, .int .i64 vy], .agg [.int .i64 qx, .int .i64 qy], .agg [.int .i64 wx, .int .i64 wy], .int .i64 r, .int .i64 n] noHeap 0 outK =
        bif fitC px py then .leaf (.tup [.int .i64 0, .int .i64 2]) else bif fitD px py then .leaf (.tup [.int .i64 0, .int .i64 2]) else
        bif fitC vx vy then .leaf (.tup [.int .i64 0, .int .i64 2]) else bif fitD vx vy then .leaf (.tup [.int .i64 0, .int .i64 2]) else
        bif fitC qx qy then .leaf (.tup [.int .i64 0, .int .i64 2]) else bif fitD qx qy then .leaf (.tup [.int .i64 0, .int .i64 2]) else
        bif fitC wx wy then .leaf (.tup [.int .i64 0, .int .i64 2]) else bif fitD wx wy then .leaf (.tup [.int .i64 0, .int .i64 2]) else
        bif outB r 0 131072 then .leaf (.tup [.int .i64 0, .int .i64 3]) else bif outB n 1 1024 then .leaf (.tup [.int .i64 0, .int .i64 3]) else
        let g : GF := ⟨r, n, vx, vy, wx, wy, IntKind.i64.wrap (n * IntKind.i64.wrap (px - qx)), IntKind.i64.wrap (n * IntKind.i64.wrap (py - qy)), IntKind.i64.wrap (n + 1), 0⟩
        bif inv_first g then bif Nat.blt (jF g) (g.N - g.k).toNat then .leaf (.tup [.int .i64 (g.k + (jF g : Int)), .int .i64 0]) else .leaf (.tup [.int .i64 0, .int .i64 5]) else .fail := by kernel_rfl
    rw [e]
    refine fit_sat a1 a2 (fun k => ?_) (fun k1 => fit_sat a3 a4 (fun k => ?_) (fun k2 => fit_sat a5 a6 (fun k => ?_) (fun k3 => fit_sat a7 a8 (fun k => ?_) (fun k4 => sat_cond (fun k => ?_) (fun k5 => sat_cond (fun k => ?_) (fun k6 => ?_))))))
    · refine sat_leaf ?_
      unfold Fs; rw [k]; rfl
    · refine sat_leaf ?_
      unfold Fs; rw [k1, k]; rfl
    · refine sat_leaf ?_
      unfold Fs; rw [k1, k2, k]; rfl
    · refine sat_leaf ?_
      unfold Fs; rw [k1, k2, k3, k]; rfl
    · refine sat_leaf ?_
      unfold Fs; rw [k1, k2, k3, k4, k]; rfl
    · refine sat_leaf ?_
      unfold Fs; rw [k1, k2, k3, k4, k5, k]; rfl
    · have c1 := fpt_bd k1
      have c2 := fpt_bd k2
      have c3 := fpt_bd k3
      have c4 := fpt_bd k4
      have c5 := out_false k5
      have c6 := out_false k6
      have b1 := mul_bd (a := n) (b := px - qx) (A := n) (B := 8388608) (by omega) (by omega) (by omega) (by omega)
      have b2 := mul_bd (a := n) (b := py - qy) (A := n) (B := 8388608) (by omega) (by omega) (by omega) (by omega)
      rw [wrap_id (n := px - qx) (by omega) (by omega), wrap_id (n := py - qy) (by omega) (by omega), wrap_id (n := n * (px - qx)) (by omega) (by omega), wrap_id (n := n * (py - qy)) (by omega) (by omega), wrap_id (n := n + 1) (by omega) (by omega)]
      have hI : inv_first ⟨r, n, vx, vy, wx, wy, n * (px - qx), n * (py - qy), n + 1, 0⟩ = true := by
        unfold inv_first
        refine decide_eq_true ?_
        refine ⟨c5.1, c5.2, c6.1, c6.2, rfl, ?_, ?_, ?_, ?_, ?_, ?_, ?_, ?_, ?_, ?_⟩ <;> dsimp only <;> omega
      have hF : Fs px py vx vy qx qy wx wy r n = bif Nat.blt (jFs px py vx vy qx qy wx wy r n) (n + 1).toNat then ((jFs px py vx vy qx qy wx wy r n : Int), 0) else (0, 5) := by
        unfold Fs; rw [k1, k2, k3, k4, k5, k6]; rfl
      have hj : jF ⟨r, n, vx, vy, wx, wy, n * (px - qx), n * (py - qy), n + 1, 0⟩ = jFs px py vx vy qx qy wx wy r n := by
        unfold jF jFs; simp only [Int.sub_zero]
      simp only [hI, hj, Int.sub_zero, cond_true, Int.zero_add]
      rw [hF]
      refine sat_cond (fun k => ?_) (fun k => ?_) <;> (refine sat_leaf ?_; rw [k]; rfl)
  · simp at h
end Go.Proofs.Ytialgmhhkbdegaa
/- The law TurfContact: plain part, and its walk by the evaluator. For all arguments the law returns true. -/
namespace Go.Proofs.Ytialgmhhkbdegaa
open Go.RowKit Ev
def g_abs : PureT
  | [.int .i64 n] => some (true, .int .i64 (max n (IntKind.i64.wrap (0 - n))))
  | _ => none
theorem inK_i16 {n : Int} (h : inK .i16 n) : -32768 ≤ n ∧ n ≤ 32767 := h
theorem inK_u8 {n : Int} (h : inK .u8 n) : 0 ≤ n ∧ n ≤ 255 := h
def sc (s : Int) : Int := 1 + s.tmod 64
theorem sc_bd {s : Int} (h : inK .u8 s) : 1 ≤ sc s ∧ sc s ≤ 64 := by
  have h' := inK_u8 h
  have a := tm_bd s 64 (by omega)
  have b := Int.tmod_nonneg 64 h'.1
  unfold sc; omega
def g_at : PureT
  | [.agg [.int .i16 x, .int .i16 y], .int .u8 s] => some (true, .agg [.int .i64 (x * sc s), .int .i64 (y * sc s)])
  | _ => none
def lv_contact : Lv := { keys := [5, 14, 15, 16, 17, 18, 19, 21, 24, 25], ids := [16, 17, 18, 19], n := 175, nx := 24 }
structure GC where
  r : Int
  many : Int
  e : Int
  last : Int
  j : Int
  ax : Int
  ay : Int
  bx : Int
  bY : Int
  cx : Int
  cy : Int
  dx : Int
  dy : Int
def pt (x y : Int) : Option Blk := some ⟨29, [.int .i64 x, .int .i64 y], true⟩
def sn_contact (g : GC) (j : Int) : Snap := ([.int .u16 g.r, .bool false, .int .i64 g.many, .ptr 16 0 0 0, .ptr 17 0 0 0, .ptr 18 0 0 0, .ptr 19 0 0 0, .int .i64 g.e, .int .i64 g.last, .int .i64 j], [pt g.ax g.ay, pt g.bx g.bY, pt g.cx g.cy, pt g.dx g.dy])
def at_contact (g : GC) : Snap := sn_contact g g.j
def en_contact : Snap → Option GC
  | ([.int .u16 r, .bool false, .int .i64 many, .ptr 16 0 0 0, .ptr 17 0 0 0, .ptr 18 0 0 0, .ptr 19 0 0 0, .int .i64 e, .int .i64 last, .int .i64 j],
     [some ⟨29, [.int .i64 ax, .int .i64 ay], true⟩, some ⟨29, [.int .i64 bx, .int .i64 bY], true⟩, some ⟨29, [.int .i64 cx, .int .i64 cy], true⟩, some ⟨29, [.int .i64 dx, .int .i64 dy], true⟩]) => some ⟨r, many, e, last, j, ax, ay, bx, bY, cx, cy, dx, dy⟩
  | _ => none
def smol (n : Int) : Prop := -2097152 ≤ n ∧ n ≤ 2097152
instance (n : Int) : Decidable (smol n) := by unfold smol; infer_instance
def xC (g : GC) (j : Int) : Int := g.many * (g.ax - g.cx) + j * (g.bx - g.dx)
def yC (g : GC) (j : Int) : Int := g.many * (g.ay - g.cy) + j * (g.bY - g.dy)
def inv_contact (g : GC) : Bool := decide ((0 ≤ g.r ∧ g.r ≤ 65535 ∧ 1 ≤ g.many ∧ g.many ≤ 100) ∧ (smol g.ax ∧ smol g.ay ∧ smol g.bx ∧ smol g.bY ∧ smol g.cx ∧ smol g.cy ∧ smol g.dx ∧ smol g.dy) ∧
  (0 ≤ g.j ∧ g.j ≤ g.last + 1 ∧ g.j ≤ g.many + 1 ∧ g.last ≤ g.many + 1) ∧ (g.j ≤ g.last → g.last = g.j + (fN (g.bx - g.dx) (g.bY - g.dy) (g.r * g.many) (g.many + 1 - g.j).toNat (xC g g.j) (yC g g.j) : Int)))
def fin_contact (g : GC) : Tree (Exit × Snap) := .br (inv_contact g) (.leaf (.exit 0, sn_contact g (min g.last g.many + 1))) .fail
def nearT {α : Type} (x y m : Int) (q : Bool) (t u : Tree α) : Tree α :=
  bif decide (max x (IntKind.i64.wrap (0 - x)) ≤ m) then bif decide (max y (IntKind.i64.wrap (0 - y)) ≤ m) then
      bif !(decide (IntKind.i64.wrap (IntKind.i64.wrap (x * x) + IntKind.i64.wrap (y * y)) ≤ IntKind.i64.wrap (m * m)) == q) then t else u
    else bif !(false == q) then t else u else bif !(false == q) then t else u
theorem abs_out {x m : Int} (h1 : -9223372036854775807 ≤ x) (h2 : x ≤ 9223372036854775807) : decide (max x (IntKind.i64.wrap (0 - x)) ≤ m) = !outB x (-m) m := by
  rw [wrap_id (by omega) (by omega)]
  unfold outB
  rw [Bool.eq_iff_iff]
  simp only [decide_eq_true_eq, Bool.not_eq_true', Bool.or_eq_false_iff, decide_eq_false_iff_not]
  omega
theorem near_sat {α : Type} {R : α → Prop} {x y m : Int} {q : Bool} {t u : Tree α} (hx1 : -9223372036854775807 ≤ x) (hx2 : x ≤ 9223372036854775807) (hy1 : -9223372036854775807 ≤ y) (hy2 : y ≤ 9223372036854775807) (hm : m ≤ 1000000000)
    (h1 : hit x y m ≠ q → t.sat R) (h2 : hit x y m = q → u.sat R) : (nearT x y m q t u).sat R := by
  unfold nearT
  rw [abs_out hx1 hx2, abs_out hy1 hy2]
  have fin : ∀ b : Bool, hit x y m = b → (bif !(b == q) then t else u).sat R := by
    intro b hb
    refine sat_cond (fun k => h1 ?_) (fun k => h2 ?_)
    · rw [hb]; simpa using k
    · rw [hb]; simpa using k
  refine sat_cond (fun k2 => sat_cond (fun k3 => ?_) (fun k3 => fin false ?_)) (fun k2 => fin false ?_)
  · have c2 := out_false (by simpa using k2)
    have c3 := out_false (by simpa using k3)
    have b5 := mul_bd (a := x) (b := x) (A := 1000000000) (B := 1000000000) (by omega) (by omega) (by omega) (by omega)
    have b6 := mul_bd (a := y) (b := y) (A := 1000000000) (B := 1000000000) (by omega) (by omega) (by omega) (by omega)
    have b7 := mul_bd (a := m) (b := m) (A := 1000000000) (B := 1000000000) (by omega) (by omega) (by omega) (by omega)
    rw [wrap_id (n := x * x) (by omega) (by omega), wrap_id (n := y * y) (by omega) (by omega), wrap_id (n := x * x + y * y) (by omega) (by omega), wrap_id (n := m * m) (by omega) (by omega)]
    refine fin _ ?_
    unfold hit; rw [k2, k3]; rfl
  · unfold hit; rw [k2, k3]; rfl
  · unfold hit; rw [k2]; rfl

def tl_contact (g : GC) : Tree Unit :=
  bif inv_contact g then bif decide (g.last ≥ 0) then bif g.e != 0 then .leaf () else bif decide (g.last ≤ g.many) then .leaf () else .fail else .fail else .fail
def t_contact (px py vx vy qx qy wx wy r n : Int) : Tree Unit :=
  bif (Fs px py vx vy qx qy wx wy (IntKind.i64.wrap r) n).1 != (Fs qx qy wx wy px py vx vy (IntKind.i64.wrap r) n).1 then .fail else
  bif (Fs px py vx vy qx qy wx wy (IntKind.i64.wrap r) n).2 != (Fs qx qy wx wy px py vx vy (IntKind.i64.wrap r) n).2 then .fail else
  bif (Fs px py vx vy qx qy wx wy (IntKind.i64.wrap r) n).2 != 0 then bif (Fs px py vx vy qx qy wx wy (IntKind.i64.wrap r) n).2 != 5 then .fail else
    bif (Fs px py vx vy qx qy wx wy (IntKind.i64.wrap r) n).2 == 5 then tl_contact ⟨r, n, (Fs px py vx vy qx qy wx wy (IntKind.i64.wrap r) n).2, IntKind.i64.wrap (n + 1), 0, px, py, vx, vy, qx, qy, wx, wy⟩
    else tl_contact ⟨r, n, (Fs px py vx vy qx qy wx wy (IntKind.i64.wrap r) n).2, (Fs px py vx vy qx qy wx wy (IntKind.i64.wrap r) n).1, 0, px, py, vx, vy, qx, qy, wx, wy⟩
  else bif (Fs px py vx vy qx qy wx wy (IntKind.i64.wrap r) n).2 == 5 then tl_contact ⟨r, n, (Fs px py vx vy qx qy wx wy (IntKind.i64.wrap r) n).2, IntKind.i64.wrap (n + 1), 0, px, py, vx, vy, qx, qy, wx, wy⟩
    else tl_contact ⟨r, n, (Fs px py vx vy qx qy wx wy (IntKind.i64.wrap r) n).2, (Fs px py vx vy qx qy wx wy (IntKind.i64.wrap r) n).1, 0, px, py, vx, vy, qx, qy, wx, wy⟩

theorem smol_fpt {x y : Int} (h : smol x) (k : smol y) : fpt x y = true := by
  unfold smol at h k; unfold fpt
  exact decide_eq_true (by omega)
theorem jFs_swap (px py vx vy qx qy wx wy r n : Int) : jFs qx qy wx wy px py vx vy r n = jFs px py vx vy qx qy wx wy r n := by
  unfold jFs
  have e1 : wx - vx = -(vx - wx) := by omega
  have e2 : wy - vy = -(vy - wy) := by omega
  have e3 : n * (qx - px) = -(n * (px - qx)) := by grind
  have e4 : n * (qy - py) = -(n * (py - qy)) := by grind
  rw [e1, e2, e3, e4, fN_neg]

theorem contact_law (px py vx vy qx qy wx wy r n : Int) (s1 : smol px) (s2 : smol py) (s3 : smol vx) (s4 : smol vy) (s5 : smol qx) (s6 : smol qy) (s7 : smol wx) (s8 : smol wy) (hr1 : 0 ≤ r) (hr2 : r ≤ 65535) (hn1 : 1 ≤ n) (hn2 : n ≤ 100) :
    (t_contact px py vx vy qx qy wx wy r n).sat (fun _ => True) := by
  have o1 : outB r 0 131072 = false := by unfold outB; simp; omega
  have o2 : outB n 1 1024 = false := by unfold outB; simp; omega
  have hF : Fs px py vx vy qx qy wx wy r n = bif Nat.blt (jFs px py vx vy qx qy wx wy r n) (n + 1).toNat then ((jFs px py vx vy qx qy wx wy r n : Int), 0) else (0, 5) := by
    unfold Fs; rw [smol_fpt s1 s2, smol_fpt s3 s4, smol_fpt s5 s6, smol_fpt s7 s8, o1, o2]; rfl
  have hF' : Fs qx qy wx wy px py vx vy r n = Fs px py vx vy qx qy wx wy r n := by
    rw [hF]; unfold Fs; rw [smol_fpt s1 s2, smol_fpt s3 s4, smol_fpt s5 s6, smol_fpt s7 s8, o1, o2, jFs_swap]; rfl
  have hle : jFs px py vx vy qx qy wx wy r n ≤ (n + 1).toNat := fN_le _ _ _ _ _ _
  have hinv : ∀ e : Int, inv_contact ⟨r, n, e, (jFs px py vx vy qx qy wx wy r n : Int), 0, px, py, vx, vy, qx, qy, wx, wy⟩ = true := by
    intro e
    unfold inv_contact
    refine decide_eq_true ⟨⟨hr1, hr2, hn1, hn2⟩, ⟨s1, s2, s3, s4, s5, s6, s7, s8⟩, ⟨by dsimp only; omega, by dsimp only; omega, by dsimp only; omega, by dsimp only; omega⟩, fun _ => ?_⟩
    unfold xC yC jFs
    dsimp only
    simp only [Int.sub_zero, Int.zero_mul, Int.add_zero, Int.zero_add]
  unfold t_contact
  rw [wrap_id (n := r) (by omega) (by omega), hF', wrap_id (n := n + 1) (by omega) (by omega)]
  cases hb : Nat.blt (jFs px py vx vy qx qy wx wy r n) (n + 1).toNat with
  | true =>
    rw [hb, cond_true] at hF
    rw [hF]
    have hj : jFs px py vx vy qx qy wx wy r n < (n + 1).toNat := by simpa using hb
    refine sat_cond (fun k => by simp at k) (fun _ => sat_cond (fun k => by simp at k) (fun _ => sat_cond (fun k => by simp at k) (fun _ => sat_cond (fun k => by simp at k) (fun _ => ?_))))
    unfold tl_contact
    rw [hinv]
    refine sat_cond (fun _ => sat_cond (fun _ => sat_cond (fun _ => trivial) (fun _ => sat_cond (fun _ => trivial) (fun k => ?_))) (fun k => ?_)) (fun k => by simp at k)
    · have := of_decide_eq_false k; dsimp only at this; omega
    · have := of_decide_eq_false k; dsimp only at this; omega
  | false =>
    rw [hb, cond_false] at hF
    have hj : jFs px py vx vy qx qy wx wy r n = (n + 1).toNat := by
      have : ¬ jFs px py vx vy qx qy wx wy r n < (n + 1).toNat := by
        intro h; rw [← Nat.blt_eq, hb] at h; simp at h
      omega
    rw [hF]
    have hi := hinv 5
    rw [hj] at hi
    have e : (((n + 1).toNat : Nat) : Int) = n + 1 := by omega
    rw [e] at hi
    refine sat_cond (fun k => by simp at k) (fun _ => sat_cond (fun k => by simp at k) (fun _ => sat_cond (fun _ => sat_cond (fun k => by simp at k) (fun _ => sat_cond (fun _ => ?_) (fun k => by simp at k))) (fun k => by simp at k)))
    unfold tl_contact
    rw [hi]
    refine sat_cond (fun _ => sat_cond (fun _ => sat_cond (fun _ => trivial) (fun k => by simp at k)) (fun k => ?_)) (fun k => by simp at k)
    have := of_decide_eq_false k; dsimp only at this; omega

theorem smol_sc {x s : Int} (hx : inK .i16 x) (hs : inK .u8 s) : smol (x * sc s) := by
  have h1 := inK_i16 hx
  have h2 := sc_bd hs
  have := mul_bd (a := x) (b := sc s) (A := 32768) (B := 64) (by omega) (by omega) (by omega) (by omega)
  unfold smol; omega

end Go.Proofs.Ytialgmhhkbdegaa
/- Contracts of turf.square, Square and Towards. -/
namespace Go.Proofs.Ytialgmhhkbdegaa
open Go.RowKit Ev
theorem is_square : FnIs Try.prog (35, Try.f35) := ⟨Try.func35, by kernel_rfl, by kernel_rfl⟩
theorem is_Square : FnIs Try.prog (102, Try.f102) := ⟨Try.func102, by kernel_rfl, by kernel_rfl⟩
def g_square : PureT
  | [.agg [.int .i64 ax, .int .i64 ay], .agg [.int .i64 bx, .int .i64 bY]] => some (fpt ax ay && fpt bx bY, .int .i64 (sq ax ay bx bY))
  | _ => none
theorem p_square : PureOk Try.prog 35 g_square := by
  refine pureOk_of_ev (ctx_ok mixed puOk_nil (fns_cons is_square fns_nil)) 2 fun xs x hw h => ?_
  unfold g_square at h
  split at h
  · rename_i ax ay bx bY
    simp only [Option.some.injEq, Prod.mk.injEq] at h
    obtain ⟨hok, rfl⟩ := h
    rw [Bool.and_eq_true] at hok
    have c1 := fpt_bd hok.1
    have c2 := fpt_bd hok.2
    refine ⟨rfl, ?_⟩
    have e : evFn (ctx Try.prog [] [(35, Try.f35)]) 2 35 [.agg [.int .i64 ax, .int .i64 ay], .agg [.int .i64 bx, .int .i64 bY]] noHeap 0 outK =
      .leaf (.int .i64 (IntKind.i64.wrap (IntKind.i64.wrap (IntKind.i64.wrap (bx - ax) * IntKind.i64.wrap (bx - ax)) + IntKind.i64.wrap (IntKind.i64.wrap (bY - ay) * IntKind.i64.wrap (bY - ay))))) := by kernel_rfl
    have b1 := mul_bd (a := bx - ax) (b := bx - ax) (A := 8388608) (B := 8388608) (by omega) (by omega) (by omega) (by omega)
    have b2 := mul_bd (a := bY - ay) (b := bY - ay) (A := 8388608) (B := 8388608) (by omega) (by omega) (by omega) (by omega)
    rw [e, wrap_id (n := bx - ax) (by omega) (by omega), wrap_id (n := bY - ay) (by omega) (by omega), wrap_id (n := (bx - ax) * (bx - ax)) (by omega) (by omega), wrap_id (n := (bY - ay) * (bY - ay)) (by omega) (by omega), wrap_id (n := (bx - ax) * (bx - ax) + (bY - ay) * (bY - ay)) (by omega) (by omega)]
    refine sat_leaf ?_
    unfold sq; rfl
  · simp at h
/-! Square -/
def SqR (ax ay bx bY : Int) : Int × Int := bif fpt ax ay && fpt bx bY then (sq ax ay bx bY, 0) else (0, 2)
def g_Square : PureT
  | [.agg [.int .i64 ax, .int .i64 ay], .agg [.int .i64 bx, .int .i64 bY]] => some (true, .tup [.int .i64 (SqR ax ay bx bY).1, .int .i64 (SqR ax ay bx bY).2])
  | _ => none
/-! Towards -/
def ToX (px qx d l : Int) : Int := qx + DW (64 * l * (px - qx)) d
def dTo (px py qx qy : Int) : Int := rt (sq px py qx qy * 4096)
def TwR (px py qx qy l : Int) : (Int × Int) × Int :=
  bif fpt px py && fpt qx qy then bif outB l 0 4194304 then ((0, 0), 3) else bif px == qx && py == qy then ((0, 0), 9) else
    bif fpt (ToX px qx (dTo px py qx qy) l) (ToX py qy (dTo px py qx qy) l) then ((ToX px qx (dTo px py qx qy) l, ToX py qy (dTo px py qx qy) l), 0) else ((0, 0), 4)
  else ((0, 0), 2)
def g_Towards : PureT
  | [.agg [.int .i64 px, .int .i64 py], .agg [.int .i64 qx, .int .i64 qy], .int .i64 l] => some (true, .tup [.agg [.int .i64 (TwR px py qx qy l).1.1, .int .i64 (TwR px py qx qy l).1.2], .int .i64 (TwR px py qx qy l).2])
  | _ => none
theorem sq_bd {px py qx qy : Int} (h : fpt px py = true) (k : fpt qx qy = true) : 0 ≤ sq px py qx qy ∧ sq px py qx qy ≤ 140737488355328 := by
  have c1 := fpt_bd h
  have c2 := fpt_bd k
  have b1 := mul_bd (a := qx - px) (b := qx - px) (A := 8388608) (B := 8388608) (by omega) (by omega) (by omega) (by omega)
  have b2 := mul_bd (a := qy - py) (b := qy - py) (A := 8388608) (B := 8388608) (by omega) (by omega) (by omega) (by omega)
  have b3 := self_nn (qx - px)
  have b4 := self_nn (qy - py)
  unfold sq; omega
theorem dTo_bd {px py qx qy : Int} (h : fpt px py = true) (k : fpt qx qy = true) (hne : ¬ (px = qx ∧ py = qy)) : 1 ≤ dTo px py qx qy ∧ dTo px py qx qy ≤ 576460752303423488 := by
  have h1 := sq_bd h k
  have h2 := sq_pos hne
  obtain ⟨r1, r2, r3⟩ := rt_spec (sq px py qx qy * 4096) (by omega)
  unfold dTo
  generalize rt (sq px py qx qy * 4096) = d at r1 r2 r3
  have hd : 1 ≤ d := by
    rcases Int.lt_or_le d 1 with x | x
    · have : d = 0 := by omega
      subst this
      omega
    · exact x
  have := Int.mul_le_mul_of_nonneg_left hd (show 0 ≤ d by omega)
  omega

end Go.Proofs.Ytialgmhhkbdegaa
/- Contracts of the reference roquetref01: Among, Valid, Far, Parted, Sqrt. -/
namespace Go.Proofs.Ytialgmhhkbdegaa
open Go.RowKit Ev
def g_Among : PureT
  | [.int .i64 a, .int .i64 b, .int .i64 c] => some (true, .bool (!outB a b c))
  | _ => none
def g_Valid : PureT
  | [.agg [.int .i64 x, .int .i64 y]] => some (true, .bool (fpt x y))
  | _ => none
theorem fpt_out (x y : Int) : fpt x y = (!outB x (-4194304) 4194304 && !outB y (-4194304) 4194304) := by
  unfold fpt outB
  rw [Bool.eq_iff_iff]
  simp only [decide_eq_true_eq, Bool.and_eq_true, Bool.not_eq_true', Bool.or_eq_false_iff, decide_eq_false_iff_not]
  omega
def g_Far : PureT
  | [.agg [.int .i64 ax, .int .i64 ay], .agg [.int .i64 bx, .int .i64 bY]] => some (fpt ax ay && fpt bx bY, .int .i64 (sq ax ay bx bY))
  | _ => none
/-! Sqrt: by halving -/
def lv_sqrt : Lv := { keys := [0, 2, 3, 4], ids := [], n := 23, nx := 0 }
def at_sqrt (g : Int × Int × Int) : Snap := ([.int .i64 g.1, .int .i64 0, .int .i64 g.2.1, .int .i64 g.2.2], [])
def en_sqrt : Snap → Option (Int × Int × Int)
  | ([.int .i64 n, .int .i64 0, .int .i64 lo, .int .i64 hi], []) => some (n, lo, hi)
  | _ => none
def inv_sqrt (g : Int × Int × Int) : Bool := decide (0 ≤ g.1 ∧ g.1 ≤ 4611686018427387904 ∧ 0 ≤ g.2.1 ∧ g.2.1 ≤ rt g.1 ∧ rt g.1 ≤ g.2.2 ∧ g.2.2 ≤ 2147483648)
def fin_sqrt (g : Int × Int × Int) : Tree (Exit × Snap) := .br (inv_sqrt g) (.leaf (.exit 0, at_sqrt (g.1, rt g.1, rt g.1))) .fail
theorem rt_max {n : Int} (h0 : 0 ≤ n) (h1 : n ≤ 4611686018427387904) : 0 ≤ rt n ∧ rt n ≤ 2147483648 := by
  obtain ⟨r1, r2, r3⟩ := rt_spec n h0
  refine ⟨r1, ?_⟩
  rcases Int.lt_or_le 2147483648 (rt n) with x | x
  · have := sq_le_of_le (a := 2147483649) (b := rt n) (by omega) (by omega)
    omega
  · exact x
end Go.Proofs.Ytialgmhhkbdegaa
/- Contracts of the reference roquetref01: Parted, First, Towards. -/
namespace Go.Proofs.Ytialgmhhkbdegaa
open Go.RowKit Ev
theorem loops_two {P : Program} {f : Nat} {fn : Func} {lb lc : Code} {s1 s2 : St → Tree (Exit × St)} {fns : List (Nat × Func)} (h1 : loopsOf (bodyOf fn) = [lb, lc]) (hk : Nat.beq (Ev.keyOf lb) (Ev.keyOf lc) = false) (h2 : LoopOk P lb s1) (h2' : LoopOk P lc s2) (h3 : ∀ p ∈ fns, p.1 = f → p.2 = fn) :
    ∀ p ∈ fns, ∀ d ∈ loopsOf (bodyOf p.2), ∀ g, assoc2 [((f, Ev.keyOf lb), s1), ((f, Ev.keyOf lc), s2)] p.1 (Ev.keyOf d) = some g → LoopOk P d g := by
  intro p hp d hd g hg
  by_cases h : p.1 = f
  · rw [h3 p hp h, h1] at hd
    simp only [List.mem_cons, List.not_mem_nil, or_false] at hd
    rcases hd with rfl | rfl
    · simp [assoc2, h] at hg
      subst hg
      exact h2
    · simp [assoc2, h, hk] at hg
      subst hg
      exact h2'
  · have hb : Nat.beq f p.1 = false := by rw [← Bool.not_eq_true, Nat.beq_eq]; exact fun x => h x.symm
    simp [assoc2, hb] at hg

/-! Parted: the quotient, and one more, or one less, for as long as the rest is not in its range -/
def lv_p : Lv := { keys := [0, 1, 4, 5], ids := [0], n := 37, nx := 1 }
def at_p (g : Int × Int × Int) : Snap := ([.int .i64 g.1, .int .i64 g.2.1, .ptr 0 0 0 0, .int .i64 g.2.2], [some ⟨78, [.int .i64 0, .int .i64 0], true⟩])
def en_p : Snap → Option (Int × Int × Int)
  | ([.int .i64 n, .int .i64 d, .ptr 0 0 0 0, .int .i64 w], [some ⟨78, [.int .i64 0, .int .i64 0], true⟩]) => some (n, d, w)
  | _ => none
def inv_p1 (g : Int × Int × Int) : Bool := dvOk g.1 g.2.1 && decide (DW g.1 g.2.1 - 1 ≤ g.2.2 ∧ g.2.2 ≤ DW g.1 g.2.1 + 1)
def fin_p1 (g : Int × Int × Int) : Tree (Exit × Snap) := .br (inv_p1 g) (.leaf (.exit 0, at_p (g.1, g.2.1, max g.2.2 (DW g.1 g.2.1)))) .fail
def inv_p2 (g : Int × Int × Int) : Bool := dvOk g.1 g.2.1 && decide (DW g.1 g.2.1 ≤ g.2.2 ∧ g.2.2 ≤ DW g.1 g.2.1 + 1)
def fin_p2 (g : Int × Int × Int) : Tree (Exit × Snap) := .br (inv_p2 g) (.leaf (.exit 2, at_p (g.1, g.2.1, DW g.1 g.2.1))) .fail
/-- the rest of a quotient that differs by j from the rounded one -/
theorem rest_off {n d w j : Int} (hd : 1 ≤ d) (hw : w = DW n d + j) : n - w * d = DR n d - j * d := by
  obtain ⟨a, _, _⟩ := dw_spec n d hd
  rw [hw]
  have : (DW n d + j) * d = DW n d * d + j * d := by grind
  omega
theorem p_wraps {n d w : Int} (hok : dvOk n d = true) (h1 : DW n d - 1 ≤ w) (h2 : w ≤ DW n d + 1) :
    IntKind.i64.wrap (2 * IntKind.i64.wrap (n - IntKind.i64.wrap (w * d))) = 2 * (n - w * d) ∧ IntKind.i64.wrap (n - IntKind.i64.wrap (w * d)) = n - w * d ∧ IntKind.i64.wrap (w + 1) = w + 1 ∧ IntKind.i64.wrap (w - 1) = w - 1 ∧ -9223372036854775807 ≤ w ∧ w ≤ 9223372036854775807 := by
  unfold dvOk at hok
  obtain ⟨k1, k2, k3, k4⟩ := of_decide_eq_true hok
  obtain ⟨a1, a2, a3⟩ := dw_spec n d k3
  have hb := dw_bd n d 1152921504606846976 k3 (by omega) (by omega) (by omega)
  have hr : n - w * d = DR n d - (w - DW n d) * d := rest_off k3 (by omega)
  have hj := mul_bd (a := w - DW n d) (b := d) (A := 1) (B := d) (by omega) (by omega) (by omega) (by omega)
  rw [wrap_id (n := w * d) (by omega) (by omega), wrap_id (n := n - w * d) (by omega) (by omega), wrap_id (n := 2 * (n - w * d)) (by omega) (by omega), wrap_id (n := w + 1) (by omega) (by omega), wrap_id (n := w - 1) (by omega) (by omega)]
  exact ⟨rfl, rfl, rfl, rfl, by omega, by omega⟩
end Go.Proofs.Ytialgmhhkbdegaa
