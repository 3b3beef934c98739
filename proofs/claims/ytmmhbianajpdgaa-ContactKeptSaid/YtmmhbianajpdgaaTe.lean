/- Contracts of the reference roquetref01: Among, Valid, Far, Parted, Sqrt. -/
import Derived.Test.YtmmhbianajpdgaaTd
namespace Go.Proofs.Ytmmhbianajpdgaa
open Go.RowKit Ev
theorem is_Among : FnIs Try.prog (71, Try.f71) := ⟨Try.func71, by kernel_rfl, by kernel_rfl⟩
theorem is_Valid : FnIs Try.prog (45, Try.f45) := ⟨Try.func45, by kernel_rfl, by kernel_rfl⟩
theorem is_Far : FnIs Try.prog (69, Try.f69) := ⟨Try.func69, by kernel_rfl, by kernel_rfl⟩
theorem is_Parted : FnIs Try.prog (62, Try.f62) := ⟨Try.func62, by kernel_rfl, by kernel_rfl⟩
theorem is_Sqrt : FnIs Try.prog (81, Try.f81) := ⟨Try.func81, by kernel_rfl, by kernel_rfl⟩

def g_Among : PureT
  | [.int .i64 a, .int .i64 b, .int .i64 c] => some (true, .bool (!outB a b c))
  | _ => none
theorem p_Among : PureOk Try.prog 71 g_Among := by
  refine pureOk_of_ev (ctx_ok mixed puOk_nil (fns_cons is_Among fns_nil)) 2 fun xs x hw h => ?_
  unfold g_Among at h
  split at h
  · rename_i a b c
    simp only [Option.some.injEq, Prod.mk.injEq, true_and] at h
    subst h
    refine ⟨rfl, ?_⟩
    have e : evFn (ctx Try.prog [] [(71, Try.f71)]) 2 71 [.int .i64 a, .int .i64 b, .int .i64 c] noHeap 0 outK = bif decide (a ≥ b) then .leaf (.bool (decide (a ≤ c))) else .leaf (.bool false) := by kernel_rfl
    rw [e]
    refine sat_cond (fun h1 => ?_) (fun h1 => ?_)
    · have h2 := of_decide_eq_true h1
      refine sat_leaf ?_
      congr 1
      unfold outB
      rw [Bool.eq_iff_iff]
      simp only [decide_eq_true_eq, Bool.not_eq_true', Bool.or_eq_false_iff, decide_eq_false_iff_not]
      omega
    · have h2 := of_decide_eq_false h1
      refine sat_leaf ?_
      congr 1
      have : outB a b c = true := by unfold outB; simp; omega
      rw [this]; rfl
  · simp at h
def pl_am : List (Nat × PureT) := [(71, g_Among)]
theorem pu_am : PuOk Try.prog pl_am := puOk_cons is_Among.plain p_Among puOk_nil

def g_Valid : PureT
  | [.agg [.int .i64 x, .int .i64 y]] => some (true, .bool (fpt x y))
  | _ => none
theorem fpt_out (x y : Int) : fpt x y = (!outB x (-4194304) 4194304 && !outB y (-4194304) 4194304) := by
  unfold fpt outB
  rw [Bool.eq_iff_iff]
  simp only [decide_eq_true_eq, Bool.and_eq_true, Bool.not_eq_true', Bool.or_eq_false_iff, decide_eq_false_iff_not]
  omega
theorem p_Valid : PureOk Try.prog 45 g_Valid := by
  refine pureOk_of_ev (ctx_ok mixed pu_am (fns_cons is_Valid fns_nil)) 2 fun xs x hw h => ?_
  unfold g_Valid at h
  split at h
  · rename_i x y
    simp only [Option.some.injEq, Prod.mk.injEq, true_and] at h
    subst h
    refine ⟨rfl, ?_⟩
    have e : evFn (ctx Try.prog pl_am [(45, Try.f45)]) 2 45 [.agg [.int .i64 x, .int .i64 y]] noHeap 0 outK =
      bif !outB x (-4194304) 4194304 then .leaf (.bool (!outB y (-4194304) 4194304)) else .leaf (.bool false) := by kernel_rfl
    rw [e, fpt_out]
    refine sat_cond (fun h1 => ?_) (fun h1 => ?_) <;> (refine sat_leaf ?_; rw [h1]; rfl)
  · simp at h

def g_Far : PureT
  | [.agg [.int .i64 ax, .int .i64 ay], .agg [.int .i64 bx, .int .i64 bY]] => some (fpt ax ay && fpt bx bY, .int .i64 (sq ax ay bx bY))
  | _ => none
theorem p_Far : PureOk Try.prog 69 g_Far := by
  refine pureOk_of_ev (ctx_ok mixed puOk_nil (fns_cons is_Far fns_nil)) 2 fun xs x hw h => ?_
  unfold g_Far at h
  split at h
  · rename_i ax ay bx bY
    simp only [Option.some.injEq, Prod.mk.injEq] at h
    obtain ⟨hok, rfl⟩ := h
    rw [Bool.and_eq_true] at hok
    have c1 := fpt_bd hok.1
    have c2 := fpt_bd hok.2
    refine ⟨rfl, ?_⟩
    have e : evFn (ctx Try.prog [] [(69, Try.f69)]) 2 69 [.agg [.int .i64 ax, .int .i64 ay], .agg [.int .i64 bx, .int .i64 bY]] noHeap 0 outK =
      .leaf (.int .i64 (IntKind.i64.wrap (IntKind.i64.wrap (IntKind.i64.wrap (ax - bx) * IntKind.i64.wrap (ax - bx)) + IntKind.i64.wrap (IntKind.i64.wrap (ay - bY) * IntKind.i64.wrap (ay - bY))))) := by kernel_rfl
    have b1 := mul_bd (a := ax - bx) (b := ax - bx) (A := 8388608) (B := 8388608) (by omega) (by omega) (by omega) (by omega)
    have b2 := mul_bd (a := ay - bY) (b := ay - bY) (A := 8388608) (B := 8388608) (by omega) (by omega) (by omega) (by omega)
    rw [e, wrap_id (n := ax - bx) (by omega) (by omega), wrap_id (n := ay - bY) (by omega) (by omega), wrap_id (n := (ax - bx) * (ax - bx)) (by omega) (by omega), wrap_id (n := (ay - bY) * (ay - bY)) (by omega) (by omega), wrap_id (n := (ax - bx) * (ax - bx) + (ay - bY) * (ay - bY)) (by omega) (by omega)]
    refine sat_leaf ?_
    have : (ax - bx) * (ax - bx) + (ay - bY) * (ay - bY) = sq ax ay bx bY := by unfold sq; grind
    rw [this]
  · simp at h

/-! Sqrt: by halving -/
noncomputable def lb_sqrt : Code := (loopsOf (bodyOf Try.f81)).getD 0 .skip
def lv_sqrt : Lv := { keys := [0, 2, 3, 4], ids := [], n := 23, nx := 0 }
def at_sqrt (g : Int × Int × Int) : Snap := ([.int .i64 g.1, .int .i64 0, .int .i64 g.2.1, .int .i64 g.2.2], [])
def en_sqrt : Snap → Option (Int × Int × Int)
  | ([.int .i64 n, .int .i64 0, .int .i64 lo, .int .i64 hi], []) => some (n, lo, hi)
  | _ => none
def inv_sqrt (g : Int × Int × Int) : Bool := decide (0 ≤ g.1 ∧ g.1 ≤ 4611686018427387904 ∧ 0 ≤ g.2.1 ∧ g.2.1 ≤ rt g.1 ∧ rt g.1 ≤ g.2.2 ∧ g.2.2 ≤ 2147483648)
def fin_sqrt (g : Int × Int × Int) : Tree (Exit × Snap) := .br (inv_sqrt g) (.leaf (.exit 0, at_sqrt (g.1, rt g.1, rt g.1))) .fail
theorem l_sqrt : LoopOk Try.prog lb_sqrt (loopSum lv_sqrt en_sqrt fin_sqrt) := by
  refine loopOk_of (X := ctx Try.prog [] []) (ctx_ok mixed puOk_nil fns_nil) 1 (fun _ => none) (fun _ _ f h => by simp at h) lv_sqrt en_sqrt fin_sqrt at_sqrt (fun g => inv_sqrt g = true) (fun g => (g.2.2 - g.2.1).toNat) ?_ ?_ ?_ ?_
  · intro v g h
    unfold en_sqrt at h
    split at h
    · simp at h; subst h; rfl
    · simp at h
  · intro g _; rfl
  · intro g R h _
    unfold fin_sqrt at h
    cases hi : inv_sqrt g with
    | true => rfl
    | false => simp [hi, Tree.sat] at h
  · rintro ⟨n, lo, hi⟩ hI _
    have e : evC (α := Exit × Bool × Snap) Try.prog (evFn (ctx Try.prog [] []) 1) [] 64 (fun _ => none) lb_sqrt (ofSnap lv_sqrt (at_sqrt (n, lo, hi))) (fun e s' => .leaf (e, Nat.beq s'.n lv_sqrt.n && snapBd lv_sqrt (snap lv_sqrt s'), snap lv_sqrt s')) =
        let mid := IntKind.i64.wrap ((IntKind.i64.wrap (IntKind.i64.wrap (lo + hi) + 1)).tdiv 2)
        bif decide (lo < hi) then
          bif decide (IntKind.i64.wrap (mid * mid) ≤ n) then .leaf (Exit.normal, true, at_sqrt (n, mid, hi)) else .leaf (Exit.normal, true, at_sqrt (n, lo, IntKind.i64.wrap (mid - 1)))
        else .leaf (Exit.exit 0, true, at_sqrt (n, lo, hi)) := by kernel_rfl
    have hI0 := hI
    unfold inv_sqrt at hI0
    obtain ⟨h1, h2, h3, h4, h5, h6⟩ := of_decide_eq_true hI0
    dsimp only at h1 h2 h3 h4 h5 h6
    obtain ⟨r1, r2, r3⟩ := rt_spec n h1
    show (evC (α := Exit × Bool × Snap) Try.prog (evFn (ctx Try.prog [] []) 1) [] 64 (fun _ => none) lb_sqrt (ofSnap lv_sqrt (at_sqrt (n, lo, hi))) (fun e s' => .leaf (e, Nat.beq s'.n lv_sqrt.n && snapBd lv_sqrt (snap lv_sqrt s'), snap lv_sqrt s'))).sat _
    rw [e]
    dsimp only
    rw [wrap_id (n := lo + hi) (by omega) (by omega), wrap_id (n := lo + hi + 1) (by omega) (by omega), Int.tdiv_eq_ediv_of_nonneg (by omega), wrap_id (n := (lo + hi + 1) / 2) (by omega) (by omega)]
    have hm := mul_bd (a := (lo + hi + 1) / 2) (b := (lo + hi + 1) / 2) (A := 2147483648) (B := 2147483648) (by omega) (by omega) (by omega) (by omega)
    rw [wrap_id (n := (lo + hi + 1) / 2 * ((lo + hi + 1) / 2)) (by omega) (by omega), wrap_id (n := (lo + hi + 1) / 2 - 1) (by omega) (by omega)]
    refine sat_cond (fun k1 => sat_cond (fun k2 => ⟨rfl, (n, (lo + hi + 1) / 2, hi), rfl, fun _ => ?_⟩) (fun k2 => ⟨rfl, (n, lo, (lo + hi + 1) / 2 - 1), rfl, fun _ => ?_⟩)) (fun k1 => ⟨rfl, fun _ R hf => ?_⟩)
    · have k1' := of_decide_eq_true k1
      have k2' := of_decide_eq_true k2
      have hle : (lo + hi + 1) / 2 ≤ rt n := by
        rcases Int.lt_or_le (rt n) ((lo + hi + 1) / 2) with x | x
        · have := sq_le_of_le (a := rt n + 1) (b := (lo + hi + 1) / 2) (by omega) (by omega)
          omega
        · exact x
      have hI' : inv_sqrt (n, (lo + hi + 1) / 2, hi) = true := by
        unfold inv_sqrt; exact decide_eq_true ⟨h1, h2, by dsimp only; omega, hle, h5, h6⟩
      refine ⟨hI', by dsimp only; omega, fun R hf => ?_⟩
      unfold fin_sqrt at hf ⊢
      exact ⟨fun _ => hf.1 hI, fun h => by rw [hI'] at h; simp at h⟩
    · have k1' := of_decide_eq_true k1
      have k2' := of_decide_eq_false k2
      have hle : rt n ≤ (lo + hi + 1) / 2 - 1 := by
        rcases Int.lt_or_le ((lo + hi + 1) / 2 - 1) (rt n) with x | x
        · have := sq_le_of_le (a := (lo + hi + 1) / 2) (b := rt n) (by omega) (by omega)
          omega
        · exact x
      have hI' : inv_sqrt (n, lo, (lo + hi + 1) / 2 - 1) = true := by
        unfold inv_sqrt; exact decide_eq_true ⟨h1, h2, h3, h4, hle, by dsimp only; omega⟩
      refine ⟨hI', by dsimp only; omega, fun R hf => ?_⟩
      unfold fin_sqrt at hf ⊢
      exact ⟨fun _ => hf.1 hI, fun h => by rw [hI'] at h; simp at h⟩
    · have k1' := of_decide_eq_false k1
      have e1 : lo = rt n := by omega
      have e2 : hi = rt n := by omega
      unfold fin_sqrt at hf
      have hf2 : R (Exit.exit 0, at_sqrt (n, rt n, rt n)) := hf.1 hI
      rw [e1, e2]
      exact hf2
noncomputable def X_Sqrt : Ctx := ctxL Try.prog [] [(81, Try.f81)] [((81, Ev.keyOf lb_sqrt), loopSum lv_sqrt en_sqrt fin_sqrt)]
theorem X_Sqrt_ok : CtxOk X_Sqrt := ctxL_ok mixed puOk_nil (fns_cons is_Sqrt fns_nil) (loops_one (by kernel_rfl) l_sqrt)
theorem rt_max {n : Int} (h0 : 0 ≤ n) (h1 : n ≤ 4611686018427387904) : 0 ≤ rt n ∧ rt n ≤ 2147483648 := by
  obtain ⟨r1, r2, r3⟩ := rt_spec n h0
  refine ⟨r1, ?_⟩
  rcases Int.lt_or_le 2147483648 (rt n) with x | x
  · have := sq_le_of_le (a := 2147483649) (b := rt n) (by omega) (by omega)
    omega
  · exact x
theorem p_Sqrt : PureOk Try.prog 81 g_root := by
  refine pureOk_of_ev X_Sqrt_ok 3 fun xs x hw h => ?_
  unfold g_root at h
  split at h
  · rename_i n
    simp only [Option.some.injEq, Prod.mk.injEq] at h
    obtain ⟨hok, rfl⟩ := h
    obtain ⟨h0, h1⟩ := of_decide_eq_true hok
    refine ⟨rfl, ?_⟩
    have e : evFn X_Sqrt 3 81 [.int .i64 n] noHeap 0 outK = bif inv_sqrt (n, 0, 2147483648) then .leaf (.int .i64 (rt n)) else .fail := by kernel_rfl
    rw [e]
    have hb := rt_max h0 h1
    have hi : inv_sqrt (n, 0, 2147483648) = true := by unfold inv_sqrt; exact decide_eq_true (by dsimp only; omega)
    rw [hi]
    exact sat_leaf rfl
  · simp at h
end Go.Proofs.Ytmmhbianajpdgaa
