/- Contract of turf.First: how many parts there are before the first contact. -/
import Derived.Test.YthgmpjljlpacgaaTb
import Derived.Test.YthgmpjljlpacgaaMc
namespace Go.Proofs.Ythgmpjljlpacgaa
open Go.RowKit Ev
theorem is_First : FnIs Try.prog (16, Try.f16) := ⟨Try.func16, by kernel_rfl, by kernel_rfl⟩

theorem out_false {x lo hi : Int} (h : outB x lo hi = false) : lo ≤ x ∧ x ≤ hi := by
  unfold outB at h
  simp only [Bool.or_eq_false_iff, decide_eq_false_iff_not] at h
  omega
theorem out_true {x lo hi : Int} (h : outB x lo hi = true) : ¬ (lo ≤ x ∧ x ≤ hi) := by
  unfold outB at h
  simp only [Bool.or_eq_true, decide_eq_true_eq] at h
  omega

/-! the loop -/
noncomputable def lb_first : Code := (loopsOf (bodyOf Try.f16)).getD 0 .skip
def lv_first : Lv := { keys := [4, 5, 7, 9, 12, 13, 14, 15, 45, 46], ids := [1, 3], n := 104, nx := 25 }
structure GF where
  r : Int
  n : Int
  vx : Int
  vy : Int
  wx : Int
  wy : Int
  x : Int
  y : Int
  N : Int
  k : Int
def sn_first (g : GF) (a x y k : Int) : Snap := ([.int .i64 g.r, .int .i64 g.n, .ptr 1 0 0 0, .ptr 3 0 0 0, .int .i64 a, .int .i64 0, .int .i64 x, .int .i64 y, .int .i64 g.N, .int .i64 k], [some ⟨35, [.int .i64 g.vx, .int .i64 g.vy], true⟩, some ⟨35, [.int .i64 g.wx, .int .i64 g.wy], true⟩])
def at_first (g : GF) : Snap := sn_first g 0 g.x g.y g.k
def en_first : Snap → Option GF
  | ([.int .i64 r, .int .i64 n, .ptr 1 0 0 0, .ptr 3 0 0 0, .int .i64 0, .int .i64 0, .int .i64 x, .int .i64 y, .int .i64 N, .int .i64 k], [some ⟨35, [.int .i64 vx, .int .i64 vy], true⟩, some ⟨35, [.int .i64 wx, .int .i64 wy], true⟩]) => some ⟨r, n, vx, vy, wx, wy, x, y, N, k⟩
  | _ => none
def inv_first (g : GF) : Bool := decide (0 ≤ g.r ∧ g.r ≤ 131072 ∧ 1 ≤ g.n ∧ g.n ≤ 1024 ∧ g.N = g.n + 1 ∧ 0 ≤ g.k ∧ g.k ≤ g.n + 1 ∧ -8388608 ≤ g.vx - g.wx ∧ g.vx - g.wx ≤ 8388608 ∧ -8388608 ≤ g.vy - g.wy ∧ g.vy - g.wy ≤ 8388608 ∧
  -(8388608 * (g.n + g.k)) ≤ g.x ∧ g.x ≤ 8388608 * (g.n + g.k) ∧ -(8388608 * (g.n + g.k)) ≤ g.y ∧ g.y ≤ 8388608 * (g.n + g.k))
def jF (g : GF) : Nat := fN (g.vx - g.wx) (g.vy - g.wy) (g.r * g.n) (g.N - g.k).toNat g.x g.y
def fin_first (g : GF) : Tree (Exit × Snap) :=
  .br (inv_first g) (.br (Nat.blt (jF g) (g.N - g.k).toNat)
    (.leaf (.ret, sn_first g (g.k + jF g) (g.x + jF g * (g.vx - g.wx)) (g.y + jF g * (g.vy - g.wy)) (g.k + jF g)))
    (.leaf (.exit 0, sn_first g 0 (g.x + jF g * (g.vx - g.wx)) (g.y + jF g * (g.vy - g.wy)) (g.k + jF g)))) .fail
def nx_first (g : GF) : GF := { g with x := g.x + (g.vx - g.wx), y := g.y + (g.vy - g.wy), k := g.k + 1 }

theorem l_first : LoopOk Try.prog lb_first (loopSum lv_first en_first fin_first) := by
  refine loopOk_of (X := ctx Try.prog [(45, g_outside)] []) (ctx_ok mixed pu1 fns_nil) 1 (fun _ => none) (fun _ _ f h => by simp at h) lv_first en_first fin_first at_first (fun g => inv_first g = true) (fun g => (g.N - g.k).toNat) ?_ ?_ ?_ ?_
  · intro v g h
    unfold en_first at h
    split at h
    · simp at h; subst h; rfl
    · simp at h
  · intro g _; rfl
  · intro g R h _
    unfold fin_first at h
    cases hi : inv_first g with
    | true => rfl
    | false => simp [hi, Tree.sat] at h
  · intro g hI _
    have e : evC (α := Exit × Bool × Snap) Try.prog (evFn (ctx Try.prog [(45, g_outside)] []) 1) [(45, g_outside)] 64 (fun _ => none) lb_first (ofSnap lv_first (at_first g)) (fun e s' => .leaf (e, Nat.beq s'.n lv_first.n && snapBd lv_first (snap lv_first s'), snap lv_first s')) =
        bif decide (g.k < g.N) then
          bif !outB g.x (IntKind.i64.wrap (IntKind.i64.wrap (0 - g.r) * g.n)) (IntKind.i64.wrap (g.r * g.n)) then
            bif !outB g.y (IntKind.i64.wrap (IntKind.i64.wrap (0 - g.r) * g.n)) (IntKind.i64.wrap (g.r * g.n)) then
              bif decide (IntKind.i64.wrap (IntKind.i64.wrap (g.x * g.x) + IntKind.i64.wrap (g.y * g.y)) ≤ IntKind.i64.wrap (IntKind.i64.wrap (IntKind.i64.wrap (g.r * g.r) * g.n) * g.n)) then
                .leaf (Exit.ret, true, sn_first g g.k g.x g.y g.k)
              else .leaf (Exit.normal, true, sn_first g 0 (IntKind.i64.wrap (g.x + IntKind.i64.wrap (g.vx - g.wx))) (IntKind.i64.wrap (g.y + IntKind.i64.wrap (g.vy - g.wy))) (IntKind.i64.wrap (g.k + 1)))
            else .leaf (Exit.normal, true, sn_first g 0 (IntKind.i64.wrap (g.x + IntKind.i64.wrap (g.vx - g.wx))) (IntKind.i64.wrap (g.y + IntKind.i64.wrap (g.vy - g.wy))) (IntKind.i64.wrap (g.k + 1)))
          else .leaf (Exit.normal, true, sn_first g 0 (IntKind.i64.wrap (g.x + IntKind.i64.wrap (g.vx - g.wx))) (IntKind.i64.wrap (g.y + IntKind.i64.wrap (g.vy - g.wy))) (IntKind.i64.wrap (g.k + 1)))
        else .leaf (Exit.exit 0, true, sn_first g 0 g.x g.y g.k) := by kernel_rfl
    have hI0 := hI
    unfold inv_first at hI0
    obtain ⟨h1, h2, h3, h4, hN, h5, h6, h7, h8, h9, h10, h11, h12, h13, h14⟩ := of_decide_eq_true hI0
    show (evC (α := Exit × Bool × Snap) Try.prog (evFn (ctx Try.prog [(45, g_outside)] []) 1) [(45, g_outside)] 64 (fun _ => none) lb_first (ofSnap lv_first (at_first g)) (fun e s' => .leaf (e, Nat.beq s'.n lv_first.n && snapBd lv_first (snap lv_first s'), snap lv_first s'))).sat _
    have b1 := mul_bd (a := g.r) (b := g.n) (A := 131072) (B := 1024) (by omega) (by omega) (by omega) (by omega)
    have en : (0 - g.r) * g.n = -(g.r * g.n) := by grind
    have e4 : g.r * g.r * g.n * g.n = (g.r * g.n) * (g.r * g.n) := by grind
    have b2 := mul_bd (a := g.r) (b := g.r) (A := 131072) (B := 131072) (by omega) (by omega) (by omega) (by omega)
    have b3 := mul_bd (a := g.r * g.r) (b := g.n) (A := 131072 * 131072) (B := 1024) (by omega) (by omega) (by omega) (by omega)
    have b4 := mul_bd (a := g.r * g.n) (b := g.r * g.n) (A := 131072 * 1024) (B := 131072 * 1024) (by omega) (by omega) (by omega) (by omega)
    rw [e, wrap_id (n := 0 - g.r) (by omega) (by omega), wrap_id (n := g.r * g.n) (by omega) (by omega), en, wrap_id (n := -(g.r * g.n)) (by omega) (by omega), wrap_id (n := g.r * g.r) (by omega) (by omega), wrap_id (n := g.r * g.r * g.n) (by omega) (by omega), e4, wrap_id (n := (g.r * g.n) * (g.r * g.n)) (by omega) (by omega),
      wrap_id (n := g.vx - g.wx) (by omega) (by omega), wrap_id (n := g.vy - g.wy) (by omega) (by omega), wrap_id (n := g.x + (g.vx - g.wx)) (by omega) (by omega), wrap_id (n := g.y + (g.vy - g.wy)) (by omega) (by omega), wrap_id (n := g.k + 1) (by omega) (by omega)]
    have hstep : g.k < g.N → hit g.x g.y (g.r * g.n) = false → ∃ g' : GF, sn_first g 0 (g.x + (g.vx - g.wx)) (g.y + (g.vy - g.wy)) (g.k + 1) = at_first g' ∧ (WFL (at_first g').1 → inv_first g' = true ∧ (g'.N - g'.k).toNat < (g.N - g.k).toNat ∧ ∀ R, (fin_first g).sat R → (fin_first g').sat R) := by
      intro hk hm
      refine ⟨nx_first g, rfl, fun _ => ?_⟩
      have hI' : inv_first (nx_first g) = true := by
        unfold inv_first nx_first
        exact decide_eq_true ⟨h1, h2, h3, h4, hN, by simp only; omega, by simp only; omega, h7, h8, h9, h10, by simp only; omega, by simp only; omega, by simp only; omega, by simp only; omega⟩
      have ef : (g.N - g.k).toNat = (g.N - (g.k + 1)).toNat + 1 := by omega
      have ej : jF g = jF (nx_first g) + 1 := by
        show fN _ _ _ (g.N - g.k).toNat g.x g.y = fN _ _ _ (g.N - (g.k + 1)).toNat _ _ + 1
        rw [ef, fN_miss hm]; rfl
      refine ⟨hI', by show (g.N - (g.k + 1)).toNat < _; omega, fun R hf => ?_⟩
      unfold fin_first at hf ⊢
      have hf2 := hf.1 hI
      refine ⟨fun _ => ?_, fun h => by rw [hI'] at h; simp at h⟩
      have q1 : (nx_first g).k + (jF (nx_first g) : Int) = g.k + (jF g : Int) := by show g.k + 1 + _ = _; omega
      have q2 : (nx_first g).x + (jF (nx_first g) : Int) * ((nx_first g).vx - (nx_first g).wx) = g.x + (jF g : Int) * (g.vx - g.wx) := by
        show g.x + (g.vx - g.wx) + _ * (g.vx - g.wx) = _
        rw [ej]; grind
      have q3 : (nx_first g).y + (jF (nx_first g) : Int) * ((nx_first g).vy - (nx_first g).wy) = g.y + (jF g : Int) * (g.vy - g.wy) := by
        show g.y + (g.vy - g.wy) + _ * (g.vy - g.wy) = _
        rw [ej]; grind
      have q4 : Nat.blt (jF (nx_first g)) ((nx_first g).N - (nx_first g).k).toNat = Nat.blt (jF g) (g.N - g.k).toNat := by
        show Nat.blt _ (g.N - (g.k + 1)).toNat = _
        rw [Bool.eq_iff_iff, Nat.blt_eq, Nat.blt_eq]; omega
      rw [q1, q2, q3, q4]
      exact hf2
    refine sat_cond (fun k1 => ?_) (fun k1 => ⟨rfl, ?_⟩)
    · have k1' := of_decide_eq_true k1
      have ef : (g.N - g.k).toNat = (g.N - (g.k + 1)).toNat + 1 := by omega
      refine sat_cond (fun k2 => sat_cond (fun k3 => ?_) (fun k3 => ⟨rfl, hstep k1' ?_⟩)) (fun k2 => ⟨rfl, hstep k1' ?_⟩)
      · have c2 := out_false (by simpa using k2)
        have c3 := out_false (by simpa using k3)
        have b5 := mul_bd (a := g.x) (b := g.x) (A := 131072 * 1024) (B := 131072 * 1024) (by omega) (by omega) (by omega) (by omega)
        have b6 := mul_bd (a := g.y) (b := g.y) (A := 131072 * 1024) (B := 131072 * 1024) (by omega) (by omega) (by omega) (by omega)
        rw [wrap_id (n := g.x * g.x) (by omega) (by omega), wrap_id (n := g.y * g.y) (by omega) (by omega), wrap_id (n := g.x * g.x + g.y * g.y) (by omega) (by omega)]
        refine sat_cond (fun k4 => ⟨rfl, fun _ R hf => ?_⟩) (fun k4 => ⟨rfl, hstep k1' ?_⟩)
        · have hh : hit g.x g.y (g.r * g.n) = true := by unfold hit; rw [k2, k3, k4]; rfl
          have ej : jF g = 0 := by unfold jF; rw [ef, fN_hit hh]
          unfold fin_first at hf
          have hf2 := hf.1 hI
          rw [ej] at hf2
          have hf3 := hf2.1 (by rw [Nat.blt_eq]; omega)
          simp only [Int.natCast_zero, Int.zero_mul, Int.add_zero] at hf3
          exact hf3
        · unfold hit; rw [k2, k3, k4]; rfl
      · unfold hit; rw [k2, k3]; rfl
      · unfold hit; rw [k2]; rfl
    · intro _ R hf
      have k1' := of_decide_eq_false k1
      have ef : (g.N - g.k).toNat = 0 := by omega
      have ej : jF g = 0 := by unfold jF; rw [ef]; rfl
      unfold fin_first at hf
      have hf2 := hf.1 hI
      rw [ej, ef] at hf2
      have hf3 := hf2.2 rfl
      simp only [Int.natCast_zero, Int.zero_mul, Int.add_zero] at hf3
      exact hf3

/-! the places: each coordinate's amount is at most 2^22 -/
def fitC (x y : Int) : Bool := decide (max (max (max x (IntKind.i64.wrap (0 - x))) y) (IntKind.i64.wrap (0 - y)) > 4194304)
def fitD (x y : Int) : Bool := decide (min x y < -4194304)
def fpt (x y : Int) : Bool := decide (-4194304 ≤ x ∧ x ≤ 4194304 ∧ -4194304 ≤ y ∧ y ≤ 4194304)
theorem wrap_neg (x : Int) (h1 : -9223372036854775808 ≤ x) (h2 : x ≤ 9223372036854775807) : IntKind.i64.wrap (0 - x) = if x = -9223372036854775808 then x else -x := by
  split
  · rename_i h; subst h; rfl
  · rw [wrap_id (by omega) (by omega)]; omega
theorem fitC_yes {x y : Int} (hx : inK .i64 x) (hy : inK .i64 y) (h : fitC x y = true) : fpt x y = false := by
  simp only [inK, minK, maxK] at hx hy
  unfold fitC at h; unfold fpt
  have h1 := of_decide_eq_true h
  rw [wrap_neg x (by omega) (by omega), wrap_neg y (by omega) (by omega)] at h1
  refine decide_eq_false ?_
  split at h1 <;> split at h1 <;> omega
theorem fitD_yes {x y : Int} (h : fitD x y = true) : fpt x y = false := by
  unfold fitD at h; unfold fpt
  have h1 := of_decide_eq_true h
  refine decide_eq_false ?_
  omega
theorem fit_no {x y : Int} (h : fitC x y = false) (k : fitD x y = false) : fpt x y = true := by
  unfold fitC at h; unfold fitD at k; unfold fpt
  have h1 := of_decide_eq_false h
  have k1 := of_decide_eq_false k
  refine decide_eq_true ?_
  omega
theorem fpt_bd {x y : Int} (h : fpt x y = true) : -4194304 ≤ x ∧ x ≤ 4194304 ∧ -4194304 ≤ y ∧ y ≤ 4194304 := of_decide_eq_true h
theorem fit_sat {α : Type} {R : α → Prop} {x y : Int} {t u : Tree α} (hx : inK .i64 x) (hy : inK .i64 y) (h1 : fpt x y = false → t.sat R) (h2 : fpt x y = true → u.sat R) : (bif fitC x y then t else bif fitD x y then t else u).sat R :=
  sat_cond (fun h => h1 (fitC_yes hx hy h)) (fun h => sat_cond (fun k => h1 (fitD_yes k)) (fun k => h2 (fit_no h k)))

/-- the first contact, and the error -/
def jFs (px py vx vy qx qy wx wy r n : Int) : Nat := fN (vx - wx) (vy - wy) (r * n) (n + 1).toNat (n * (px - qx)) (n * (py - qy))
def Fs (px py vx vy qx qy wx wy r n : Int) : Int × Int :=
  bif fpt px py && (fpt vx vy && (fpt qx qy && fpt wx wy)) then bif outB r 0 131072 || outB n 1 1024 then (0, 3)
    else bif Nat.blt (jFs px py vx vy qx qy wx wy r n) (n + 1).toNat then ((jFs px py vx vy qx qy wx wy r n : Int), 0) else (0, 5)
  else (0, 2)
def g_First : PureT
  | [.agg [.int .i64 px, .int .i64 py], .agg [.int .i64 vx, .int .i64 vy], .agg [.int .i64 qx, .int .i64 qy], .agg [.int .i64 wx, .int .i64 wy], .int .i64 r, .int .i64 n] =>
    some (true, .tup [.int .i64 (Fs px py vx vy qx qy wx wy r n).1, .int .i64 (Fs px py vx vy qx qy wx wy r n).2])
  | _ => none
noncomputable def X_First : Ctx := ctxL Try.prog [(45, g_outside)] [(16, Try.f16), (47, Try.f47)] [((16, Ev.keyOf lb_first), loopSum lv_first en_first fin_first)]
theorem loops_among {P : Program} {f : Nat} {fn : Func} {lb : Code} {sum : St → Tree (Exit × St)} {fns : List (Nat × Func)} (h1 : loopsOf (bodyOf fn) = [lb]) (h2 : LoopOk P lb sum) (h3 : ∀ p ∈ fns, p.1 = f → p.2 = fn) :
    ∀ p ∈ fns, ∀ d ∈ loopsOf (bodyOf p.2), ∀ g, assoc2 [((f, Ev.keyOf lb), sum)] p.1 (Ev.keyOf d) = some g → LoopOk P d g := by
  intro p hp d hd g hg
  by_cases h : p.1 = f
  · rw [h3 p hp h, h1, List.mem_singleton] at hd
    subst hd
    simp [assoc2, h] at hg
    subst hg
    exact h2
  · have hb : Nat.beq f p.1 = false := by rw [← Bool.not_eq_true, Nat.beq_eq]; exact fun x => h x.symm
    simp [assoc2, hb] at hg
theorem X_First_ok : CtxOk X_First := by
  refine ctxL_ok mixed pu1 (fns_cons is_First (fns_cons is_fits fns_nil)) (loops_among (fn := Try.f16) (by kernel_rfl) l_first ?_)
  intro p hp h
  simp only [List.mem_cons, List.not_mem_nil, or_false] at hp
  rcases hp with rfl | rfl
  · rfl
  · exact absurd h (by decide)

theorem p_First : PureOk Try.prog 16 g_First := by
  refine pureOk_of_ev X_First_ok 3 fun xs x hw h => ?_
  unfold g_First at h
  split at h
  · rename_i px py vx vy qx qy wx wy r n
    simp only [Option.some.injEq, Prod.mk.injEq, true_and] at h
    subst h
    simp only [WFL, WF, and_true] at hw
    obtain ⟨⟨a1, a2⟩, ⟨a3, a4⟩, ⟨a5, a6⟩, ⟨a7, a8⟩, a9, a10⟩ := hw
    refine ⟨rfl, ?_⟩
    have e : evFn X_First 3 16 [.agg [.int .i64 px, .int .i64 py], .agg [.int .i64 vx, .int .i64 vy], .agg [.int .i64 qx, .int .i64 qy], .agg [.int .i64 wx, .int .i64 wy], .int .i64 r, .int .i64 n] noHeap 0 outK =
        bif fitC px py then .leaf (.tup [.int .i64 0, .int .i64 2]) else bif fitD px py then .leaf (.tup [.int .i64 0, .int .i64 2]) else
        bif fitC vx vy then .leaf (.tup [.int .i64 0, .int .i64 2]) else bif fitD vx vy then .leaf (.tup [.int .i64 0, .int .i64 2]) else
        bif fitC qx qy then .leaf (.tup [.int .i64 0, .int .i64 2]) else bif fitD qx qy then .leaf (.tup [.int .i64 0, .int .i64 2]) else
        bif fitC wx wy then .leaf (.tup [.int .i64 0, .int .i64 2]) else bif fitD wx wy then .leaf (.tup [.int .i64 0, .int .i64 2]) else
        bif outB r 0 131072 then .leaf (.tup [.int .i64 0, .int .i64 3]) else bif outB n 1 1024 then .leaf (.tup [.int .i64 0, .int .i64 3]) else
        let g : GF := ⟨r, n, vx, vy, wx, wy, IntKind.i64.wrap (n * IntKind.i64.wrap (px - qx)), IntKind.i64.wrap (n * IntKind.i64.wrap (py - qy)), IntKind.i64.wrap (n + 1), 0⟩
        bif inv_first g then bif Nat.blt (jF g) (g.N - g.k).toNat then .leaf (.tup [.int .i64 (g.k + (jF g : Int)), .int .i64 0]) else .leaf (.tup [.int .i64 0, .int .i64 5]) else .fail := by kernel_rfl
    rw [e]
    refine fit_sat a1 a2 (fun k => ?_) (fun k1 => fit_sat a3 a4 (fun k => ?_) (fun k2 => fit_sat a5 a6 (fun k => ?_) (fun k3 => fit_sat a7 a8 (fun k => ?_) (fun k4 => sat_cond (fun k => ?_) (fun k5 => sat_cond (fun k => ?_) (fun k6 => ?_))))))
    · refine sat_leaf ?_
      unfold Fs; rw [k]; rfl
    · refine sat_leaf ?_
      unfold Fs; rw [k1, k]; rfl
    · refine sat_leaf ?_
      unfold Fs; rw [k1, k2, k]; rfl
    · refine sat_leaf ?_
      unfold Fs; rw [k1, k2, k3, k]; rfl
    · refine sat_leaf ?_
      unfold Fs; rw [k1, k2, k3, k4, k]; rfl
    · refine sat_leaf ?_
      unfold Fs; rw [k1, k2, k3, k4, k5, k]; rfl
    · have c1 := fpt_bd k1
      have c2 := fpt_bd k2
      have c3 := fpt_bd k3
      have c4 := fpt_bd k4
      have c5 := out_false k5
      have c6 := out_false k6
      have b1 := mul_bd (a := n) (b := px - qx) (A := n) (B := 8388608) (by omega) (by omega) (by omega) (by omega)
      have b2 := mul_bd (a := n) (b := py - qy) (A := n) (B := 8388608) (by omega) (by omega) (by omega) (by omega)
      rw [wrap_id (n := px - qx) (by omega) (by omega), wrap_id (n := py - qy) (by omega) (by omega), wrap_id (n := n * (px - qx)) (by omega) (by omega), wrap_id (n := n * (py - qy)) (by omega) (by omega), wrap_id (n := n + 1) (by omega) (by omega)]
      have hI : inv_first ⟨r, n, vx, vy, wx, wy, n * (px - qx), n * (py - qy), n + 1, 0⟩ = true := by
        unfold inv_first
        refine decide_eq_true ?_
        refine ⟨c5.1, c5.2, c6.1, c6.2, rfl, ?_, ?_, ?_, ?_, ?_, ?_, ?_, ?_, ?_, ?_⟩ <;> dsimp only <;> omega
      have hF : Fs px py vx vy qx qy wx wy r n = bif Nat.blt (jFs px py vx vy qx qy wx wy r n) (n + 1).toNat then ((jFs px py vx vy qx qy wx wy r n : Int), 0) else (0, 5) := by
        unfold Fs; rw [k1, k2, k3, k4, k5, k6]; rfl
      have hj : jF ⟨r, n, vx, vy, wx, wy, n * (px - qx), n * (py - qy), n + 1, 0⟩ = jFs px py vx vy qx qy wx wy r n := by
        unfold jF jFs; simp only [Int.sub_zero]
      simp only [hI, hj, Int.sub_zero, cond_true, Int.zero_add]
      rw [hF]
      refine sat_cond (fun k => ?_) (fun k => ?_) <;> (refine sat_leaf ?_; rw [k]; rfl)
  · simp at h
end Go.Proofs.Ythgmpjljlpacgaa
