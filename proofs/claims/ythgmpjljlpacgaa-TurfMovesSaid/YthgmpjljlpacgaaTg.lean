/- Contracts of the reference roquetref01: First, Towards: what turf's own compute. -/
import Derived.Test.YthgmpjljlpacgaaTf
namespace Go.Proofs.Ythgmpjljlpacgaa
open Go.RowKit Ev
def pl_ref : List (Nat × PureT) := [(51, g_Among), (50, g_Valid), (63, g_Far), (53, g_divide), (54, g_root)]
theorem pu_ref : PuOk Try.prog pl_ref := puOk_cons is_Among.plain p_Among (puOk_cons is_Valid.plain p_Valid (puOk_cons is_Far.plain p_Far (puOk_cons is_Parted.plain p_Parted (puOk_cons is_Sqrt.plain p_Sqrt puOk_nil))))
noncomputable def lb_rfirst : Code := (loopsOf (bodyOf Try.f20)).getD 0 .skip
def lv_rfirst : Lv := { keys := [4, 5, 6, 7, 8, 9, 12, 13, 14], ids := [0, 1, 2, 3], n := 107, nx := 4 }
structure GR where
  r : Int
  n : Int
  px : Int
  py : Int
  vx : Int
  vy : Int
  qx : Int
  qy : Int
  wx : Int
  wy : Int
  k : Int
def pb (x y : Int) : Option Blk := some ⟨35, [.int .i64 x, .int .i64 y], true⟩
def sn_rfirst (g : GR) (a k : Int) : Snap := ([.int .i64 g.r, .int .i64 g.n, .ptr 0 0 0 0, .ptr 1 0 0 0, .ptr 2 0 0 0, .ptr 3 0 0 0, .int .i64 a, .int .i64 0, .int .i64 k], [pb g.px g.py, pb g.vx g.vy, pb g.qx g.qy, pb g.wx g.wy])
def at_rfirst (g : GR) : Snap := sn_rfirst g 0 g.k
def en_rfirst : Snap → Option GR
  | ([.int .i64 r, .int .i64 n, .ptr 0 0 0 0, .ptr 1 0 0 0, .ptr 2 0 0 0, .ptr 3 0 0 0, .int .i64 0, .int .i64 0, .int .i64 k],
     [some ⟨35, [.int .i64 px, .int .i64 py], true⟩, some ⟨35, [.int .i64 vx, .int .i64 vy], true⟩, some ⟨35, [.int .i64 qx, .int .i64 qy], true⟩, some ⟨35, [.int .i64 wx, .int .i64 wy], true⟩]) => some ⟨r, n, px, py, vx, vy, qx, qy, wx, wy, k⟩
  | _ => none
def inv_rfirst (g : GR) : Bool := decide ((0 ≤ g.r ∧ g.r ≤ 131072 ∧ 1 ≤ g.n ∧ g.n ≤ 1024 ∧ 0 ≤ g.k ∧ g.k ≤ g.n + 1) ∧ (-8388608 ≤ g.px - g.qx ∧ g.px - g.qx ≤ 8388608 ∧ -8388608 ≤ g.py - g.qy ∧ g.py - g.qy ≤ 8388608) ∧ (-8388608 ≤ g.vx - g.wx ∧ g.vx - g.wx ≤ 8388608 ∧ -8388608 ≤ g.vy - g.wy ∧ g.vy - g.wy ≤ 8388608))
def xR (g : GR) : Int := g.n * (g.px - g.qx) + g.k * (g.vx - g.wx)
def yR (g : GR) : Int := g.n * (g.py - g.qy) + g.k * (g.vy - g.wy)
def jR (g : GR) : Nat := fN (g.vx - g.wx) (g.vy - g.wy) (g.r * g.n) (g.n + 1 - g.k).toNat (xR g) (yR g)
def fin_rfirst (g : GR) : Tree (Exit × Snap) :=
  .br (inv_rfirst g) (.br (Nat.blt (jR g) (g.n + 1 - g.k).toNat) (.leaf (.ret, sn_rfirst g (g.k + jR g) (g.k + jR g))) (.leaf (.exit 0, sn_rfirst g 0 (g.k + jR g)))) .fail
def rnearT {α : Type} (x y m e : Int) (t u : Tree α) : Tree α :=
  bif decide (max (max (max x (IntKind.i64.wrap (0 - x))) y) (IntKind.i64.wrap (0 - y)) ≤ m) then bif decide (IntKind.i64.wrap (IntKind.i64.wrap (x * x) + IntKind.i64.wrap (y * y)) ≤ e) then t else u else u
theorem rnear_sat {α : Type} {R : α → Prop} {x y m e : Int} {t u : Tree α} (hx1 : -9223372036854775807 ≤ x) (hx2 : x ≤ 9223372036854775807) (hy1 : -9223372036854775807 ≤ y) (hy2 : y ≤ 9223372036854775807) (hm : m ≤ 1000000000) (he : e = m * m)
    (h1 : hit x y m = true → t.sat R) (h2 : hit x y m = false → u.sat R) : (rnearT x y m e t u).sat R := by
  unfold rnearT
  subst he
  rw [wrap_id (n := 0 - x) (by omega) (by omega), wrap_id (n := 0 - y) (by omega) (by omega)]
  refine sat_cond (fun k => ?_) (fun k => h2 ?_)
  · have k' := of_decide_eq_true k
    have b5 := mul_bd (a := x) (b := x) (A := 1000000000) (B := 1000000000) (by omega) (by omega) (by omega) (by omega)
    have b6 := mul_bd (a := y) (b := y) (A := 1000000000) (B := 1000000000) (by omega) (by omega) (by omega) (by omega)
    rw [wrap_id (n := x * x) (by omega) (by omega), wrap_id (n := y * y) (by omega) (by omega), wrap_id (n := x * x + y * y) (by omega) (by omega)]
    have o1 : outB x (-m) m = false := by unfold outB; simp; omega
    have o2 : outB y (-m) m = false := by unfold outB; simp; omega
    refine sat_cond (fun q => h1 ?_) (fun q => h2 ?_)
    · unfold hit; rw [o1, o2, q]; rfl
    · unfold hit; rw [o1, o2, q]; rfl
  · have k' := of_decide_eq_false k
    have : outB x (-m) m = true ∨ outB y (-m) m = true := by
      unfold outB; simp only [Bool.or_eq_true, decide_eq_true_eq]; omega
    unfold hit
    rcases this with o | o <;> rw [o]
    · rfl
    · cases outB x (-m) m <;> rfl

theorem l_rfirst : LoopOk Try.prog lb_rfirst (loopSum lv_rfirst en_rfirst fin_rfirst) := by
  refine loopOk_of (X := ctx Try.prog [] []) (ctx_ok mixed puOk_nil fns_nil) 1 (fun _ => none) (fun _ _ f h => by simp at h) lv_rfirst en_rfirst fin_rfirst at_rfirst (fun g => inv_rfirst g = true) (fun g => (g.n + 1 - g.k).toNat) ?_ ?_ ?_ ?_
  · intro v g h
    unfold en_rfirst at h
    split at h
    · simp at h; subst h; rfl
    · simp at h
  · intro g _; rfl
  · intro g R h _
    unfold fin_rfirst at h
    cases hi : inv_rfirst g with
    | true => rfl
    | false => simp [hi, Tree.sat] at h
  · intro g hI _
    have e : evC (α := Exit × Bool × Snap) Try.prog (evFn (ctx Try.prog [] []) 1) [] 64 (fun _ => none) lb_rfirst (ofSnap lv_rfirst (at_rfirst g)) (fun e s' => .leaf (e, Nat.beq s'.n lv_rfirst.n && snapBd lv_rfirst (snap lv_rfirst s'), snap lv_rfirst s')) =
        bif decide (g.k ≤ g.n) then
          rnearT (IntKind.i64.wrap (IntKind.i64.wrap (g.n * IntKind.i64.wrap (g.px - g.qx)) + IntKind.i64.wrap (g.k * IntKind.i64.wrap (g.vx - g.wx)))) (IntKind.i64.wrap (IntKind.i64.wrap (g.n * IntKind.i64.wrap (g.py - g.qy)) + IntKind.i64.wrap (g.k * IntKind.i64.wrap (g.vy - g.wy))))
            (IntKind.i64.wrap (g.r * g.n)) (IntKind.i64.wrap (IntKind.i64.wrap (IntKind.i64.wrap (g.r * g.n) * g.r) * g.n))
            (.leaf (Exit.ret, true, sn_rfirst g g.k g.k)) (.leaf (Exit.normal, true, sn_rfirst g 0 (IntKind.i64.wrap (g.k + 1))))
        else .leaf (Exit.exit 0, true, sn_rfirst g 0 g.k) := by kernel_rfl
    have hI0 := hI
    unfold inv_rfirst at hI0
    obtain ⟨⟨h1, h2, h3, h4, h5, h6⟩, ⟨c1, c2, c3, c4⟩, ⟨d1, d2, d3, d4⟩⟩ := of_decide_eq_true hI0
    show (evC (α := Exit × Bool × Snap) Try.prog (evFn (ctx Try.prog [] []) 1) [] 64 (fun _ => none) lb_rfirst (ofSnap lv_rfirst (at_rfirst g)) (fun e s' => .leaf (e, Nat.beq s'.n lv_rfirst.n && snapBd lv_rfirst (snap lv_rfirst s'), snap lv_rfirst s'))).sat _
    have b0 := mul_bd (a := g.r) (b := g.n) (A := 131072) (B := 1024) (by omega) (by omega) (by omega) (by omega)
    have b1 := mul_bd (a := g.n) (b := g.px - g.qx) (A := 1024) (B := 8388608) (by omega) (by omega) (by omega) (by omega)
    have b2 := mul_bd (a := g.n) (b := g.py - g.qy) (A := 1024) (B := 8388608) (by omega) (by omega) (by omega) (by omega)
    have b3 := mul_bd (a := g.k) (b := g.vx - g.wx) (A := 1025) (B := 8388608) (by omega) (by omega) (by omega) (by omega)
    have b4 := mul_bd (a := g.k) (b := g.vy - g.wy) (A := 1025) (B := 8388608) (by omega) (by omega) (by omega) (by omega)
    have b5 := mul_bd (a := g.r * g.n) (b := g.r) (A := 134217728) (B := 131072) (by omega) (by omega) (by omega) (by omega)
    have b6 := mul_bd (a := g.r * g.n * g.r) (b := g.n) (A := 134217728 * 131072) (B := 1024) (by omega) (by omega) (by omega) (by omega)
    rw [e, wrap_id (n := g.px - g.qx) (by omega) (by omega), wrap_id (n := g.py - g.qy) (by omega) (by omega), wrap_id (n := g.vx - g.wx) (by omega) (by omega), wrap_id (n := g.vy - g.wy) (by omega) (by omega),
      wrap_id (n := g.n * (g.px - g.qx)) (by omega) (by omega), wrap_id (n := g.n * (g.py - g.qy)) (by omega) (by omega), wrap_id (n := g.k * (g.vx - g.wx)) (by omega) (by omega), wrap_id (n := g.k * (g.vy - g.wy)) (by omega) (by omega),
      wrap_id (n := g.n * (g.px - g.qx) + g.k * (g.vx - g.wx)) (by omega) (by omega), wrap_id (n := g.n * (g.py - g.qy) + g.k * (g.vy - g.wy)) (by omega) (by omega), wrap_id (n := g.r * g.n) (by omega) (by omega), wrap_id (n := g.r * g.n * g.r) (by omega) (by omega), wrap_id (n := g.r * g.n * g.r * g.n) (by omega) (by omega), wrap_id (n := g.k + 1) (by omega) (by omega)]
    have e4 : g.r * g.n * g.r * g.n = (g.r * g.n) * (g.r * g.n) := by grind
    refine sat_cond (fun k1 => ?_) (fun k1 => ⟨rfl, fun _ R hf => ?_⟩)
    · have k1' := of_decide_eq_true k1
      have ef : (g.n + 1 - g.k).toNat = (g.n + 1 - (g.k + 1)).toNat + 1 := by omega
      refine rnear_sat (by omega) (by omega) (by omega) (by omega) (by omega) e4 (fun hh => ⟨rfl, fun _ R hf => ?_⟩) (fun hm => ⟨rfl, { g with k := g.k + 1 }, rfl, fun _ => ?_⟩)
      · have ej : jR g = 0 := by
          have hh' : hit (xR g) (yR g) (g.r * g.n) = true := hh
          unfold jR; rw [ef, fN_hit hh']
        unfold fin_rfirst at hf
        have hf2 := hf.1 hI
        rw [ej] at hf2
        have hf3 := hf2.1 (by rw [Nat.blt_eq]; omega)
        simp only [Int.natCast_zero, Int.add_zero] at hf3
        exact hf3
      · have hI' : inv_rfirst { g with k := g.k + 1 } = true := by
          unfold inv_rfirst
          exact decide_eq_true ⟨⟨h1, h2, h3, h4, by dsimp only; omega, by dsimp only; omega⟩, ⟨c1, c2, c3, c4⟩, ⟨d1, d2, d3, d4⟩⟩
        have ej : jR g = jR { g with k := g.k + 1 } + 1 := by
          have hm' : hit (xR g) (yR g) (g.r * g.n) = false := hm
          have ex : xR g + (g.vx - g.wx) = xR { g with k := g.k + 1 } := by unfold xR; dsimp only; grind
          have ey : yR g + (g.vy - g.wy) = yR { g with k := g.k + 1 } := by unfold yR; dsimp only; grind
          unfold jR
          rw [ef, fN_miss hm', ex, ey]
        refine ⟨hI', by show (g.n + 1 - (g.k + 1)).toNat < _; omega, fun R hf => ?_⟩
        unfold fin_rfirst at hf ⊢
        have hf2 := hf.1 hI
        refine ⟨fun _ => ?_, fun h => by rw [hI'] at h; simp at h⟩
        have q1 : g.k + 1 + (jR { g with k := g.k + 1 } : Int) = g.k + (jR g : Int) := by omega
        have q4 : Nat.blt (jR { g with k := g.k + 1 }) (g.n + 1 - (g.k + 1)).toNat = Nat.blt (jR g) (g.n + 1 - g.k).toNat := by
          rw [Bool.eq_iff_iff, Nat.blt_eq, Nat.blt_eq]; omega
        dsimp only
        rw [q1, q4]
        exact hf2
    · have k1' := of_decide_eq_false k1
      have ef : (g.n + 1 - g.k).toNat = 0 := by omega
      have ej : jR g = 0 := by unfold jR; rw [ef]; rfl
      unfold fin_rfirst at hf
      have hf2 := hf.1 hI
      rw [ej, ef] at hf2
      have hf3 := hf2.2 rfl
      simp only [Int.natCast_zero, Int.add_zero] at hf3
      exact hf3

noncomputable def X_rFirst : Ctx := ctxL Try.prog pl_ref [(20, Try.f20)] [((20, Ev.keyOf lb_rfirst), loopSum lv_rfirst en_rfirst fin_rfirst)]
theorem X_rFirst_ok : CtxOk X_rFirst := ctxL_ok mixed pu_ref (fns_cons is_refFirst fns_nil) (loops_one (by kernel_rfl) l_rfirst)
theorem p_refFirst : PureOk Try.prog 20 g_First := by
  refine pureOk_of_ev X_rFirst_ok 3 fun xs x hw h => ?_
  unfold g_First at h
  split at h
  · rename_i px py vx vy qx qy wx wy r n
    simp only [Option.some.injEq, Prod.mk.injEq, true_and] at h
    subst h
    refine ⟨rfl, ?_⟩
    have e : evFn X_rFirst 3 20 [.agg [.int .i64 px, .int .i64 py], .agg [.int .i64 vx, .int .i64 vy], .agg [.int .i64 qx, .int .i64 qy], .agg [.int .i64 wx, .int .i64 wy], .int .i64 r, .int .i64 n] noHeap 0 outK =
        bif !fpt px py then .leaf (.tup [.int .i64 0, .int .i64 2]) else bif !fpt vx vy then .leaf (.tup [.int .i64 0, .int .i64 2]) else
        bif !fpt qx qy then .leaf (.tup [.int .i64 0, .int .i64 2]) else bif !fpt wx wy then .leaf (.tup [.int .i64 0, .int .i64 2]) else
        bif !!outB r 0 131072 then .leaf (.tup [.int .i64 0, .int .i64 3]) else bif !!outB n 1 1024 then .leaf (.tup [.int .i64 0, .int .i64 3]) else
        let g : GR := ⟨r, n, px, py, vx, vy, qx, qy, wx, wy, 0⟩
        bif inv_rfirst g then bif Nat.blt (jR g) (g.n + 1 - g.k).toNat then .leaf (.tup [.int .i64 (g.k + (jR g : Int)), .int .i64 0]) else .leaf (.tup [.int .i64 0, .int .i64 5]) else .fail := by kernel_rfl
    rw [e]
    dsimp only
    unfold Fs
    simp only [Bool.not_not]
    cases k1 : fpt px py with
    | false => exact sat_leaf rfl
    | true =>
      cases k2 : fpt vx vy with
      | false => exact sat_leaf rfl
      | true =>
        cases k3 : fpt qx qy with
        | false => exact sat_leaf rfl
        | true =>
          cases k4 : fpt wx wy with
          | false => exact sat_leaf rfl
          | true =>
            cases k5 : outB r 0 131072 with
            | true => exact sat_leaf rfl
            | false =>
              cases k6 : outB n 1 1024 with
              | true => exact sat_leaf rfl
              | false =>
                have c1 := fpt_bd k1
                have c2 := fpt_bd k2
                have c3 := fpt_bd k3
                have c4 := fpt_bd k4
                have c5 := out_false k5
                have c6 := out_false k6
                have hI : inv_rfirst ⟨r, n, px, py, vx, vy, qx, qy, wx, wy, 0⟩ = true := by
                  unfold inv_rfirst
                  refine decide_eq_true ⟨⟨?_, ?_, ?_, ?_, ?_, ?_⟩, ⟨?_, ?_, ?_, ?_⟩, ?_, ?_, ?_, ?_⟩ <;> dsimp only <;> omega
                have hj : jR ⟨r, n, px, py, vx, vy, qx, qy, wx, wy, 0⟩ = jFs px py vx vy qx qy wx wy r n := by
                  unfold jR jFs xR yR; simp only [Int.sub_zero, Int.zero_mul, Int.add_zero]
                rw [hI, hj]
                simp only [Bool.not_true, cond_false, cond_true, Bool.and_self, Bool.or_self, Int.sub_zero, Int.zero_add]
                refine sat_cond (fun k => ?_) (fun k => ?_) <;> (refine sat_leaf ?_; rw [k]; rfl)
  · simp at h
end Go.Proofs.Ythgmpjljlpacgaa
