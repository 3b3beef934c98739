/- The law TurfContact: plain part, and its walk by the evaluator. For all arguments the law returns true. -/
import Derived.Test.YthgmpjljlpacgaaTc
import Derived.Test.YthgmpjljlpacgaaEm
namespace Go.Proofs.Ythgmpjljlpacgaa
open Go.RowKit Ev
theorem is_TurfContact : FnIs Try.prog (4, Try.f4) := ⟨Try.func4, by kernel_rfl, by kernel_rfl⟩
theorem is_at : FnIs Try.prog (15, Try.f15) := ⟨Try.func15, by kernel_rfl, by kernel_rfl⟩
theorem is_abs : FnIs Try.prog (17, Try.f17) := ⟨Try.func17, by kernel_rfl, by kernel_rfl⟩
def g_abs : PureT
  | [.int .i64 n] => some (true, .int .i64 (max n (IntKind.i64.wrap (0 - n))))
  | _ => none
theorem p_abs : PureOk Try.prog 17 g_abs := by
  refine pureOk_of_ev (ctx_ok mixed puOk_nil (fns_cons is_abs fns_nil)) 2 fun xs x hw h => ?_
  unfold g_abs at h
  split at h
  · rename_i n
    simp only [Option.some.injEq, Prod.mk.injEq, true_and] at h
    subst h
    refine ⟨rfl, ?_⟩
    have e : evFn (ctx Try.prog [] [(17, Try.f17)]) 2 17 [.int .i64 n] noHeap 0 outK = .leaf (.int .i64 (max n (IntKind.i64.wrap (0 - n)))) := by kernel_rfl
    rw [e]
    exact sat_leaf rfl
  · simp at h
theorem inK_i16 {n : Int} (h : inK .i16 n) : -32768 ≤ n ∧ n ≤ 32767 := h
theorem inK_u8 {n : Int} (h : inK .u8 n) : 0 ≤ n ∧ n ≤ 255 := h
def sc (s : Int) : Int := 1 + s.tmod 64
theorem sc_bd {s : Int} (h : inK .u8 s) : 1 ≤ sc s ∧ sc s ≤ 64 := by
  have h' := inK_u8 h
  have a := tm_bd s 64 (by omega)
  have b := Int.tmod_nonneg 64 h'.1
  unfold sc; omega
def g_at : PureT
  | [.agg [.int .i16 x, .int .i16 y], .int .u8 s] => some (true, .agg [.int .i64 (x * sc s), .int .i64 (y * sc s)])
  | _ => none
theorem p_at : PureOk Try.prog 15 g_at := by
  refine pureOk_of_ev (ctx_ok mixed puOk_nil (fns_cons is_at fns_nil)) 2 fun xs x hw h => ?_
  unfold g_at at h
  split at h
  · rename_i x y s
    simp only [Option.some.injEq, Prod.mk.injEq, true_and] at h
    subst h
    simp only [WFL, WF, and_true] at hw
    obtain ⟨⟨hx, hy⟩, hs⟩ := hw
    refine ⟨rfl, ?_⟩
    have e : evFn (ctx Try.prog [] [(15, Try.f15)]) 2 15 [.agg [.int .i16 x, .int .i16 y], .int .u8 s] noHeap 0 outK = .leaf (.agg [.int .i64 (IntKind.i64.wrap (IntKind.i64.wrap x * IntKind.i64.wrap (1 + (IntKind.i64.wrap s).tmod 64))), .int .i64 (IntKind.i64.wrap (IntKind.i64.wrap y * IntKind.i64.wrap (1 + (IntKind.i64.wrap s).tmod 64)))]) := by kernel_rfl
    have b := sc_bd hs
    have hx' := inK_i16 hx
    have hy' := inK_i16 hy
    have hs' := inK_u8 hs
    unfold sc at b
    have b1 := mul_bd (a := x) (b := 1 + s.tmod 64) (A := 32768) (B := 64) (by omega) (by omega) (by omega) (by omega)
    have b2 := mul_bd (a := y) (b := 1 + s.tmod 64) (A := 32768) (B := 64) (by omega) (by omega) (by omega) (by omega)
    rw [e, wrap_id (n := x) (by omega) (by omega), wrap_id (n := y) (by omega) (by omega), wrap_id (n := s) (by omega) (by omega), wrap_id (n := 1 + s.tmod 64) (by omega) (by omega), wrap_id (n := x * (1 + s.tmod 64)) (by omega) (by omega), wrap_id (n := y * (1 + s.tmod 64)) (by omega) (by omega)]
    exact sat_leaf rfl
  · simp at h
noncomputable def lb_contact : Code := (loopsOf (bodyOf Try.f4)).getD 0 .skip
def pl_contact : List (Nat × PureT) := [(15, g_at), (17, g_abs), (16, g_First), (14, g_fine)]
theorem pu_contact : PuOk Try.prog pl_contact := puOk_cons is_at.plain p_at (puOk_cons is_abs.plain p_abs (puOk_cons is_First.plain p_First (puOk_cons is_fine.plain p_fine puOk_nil)))

def lv_contact : Lv := { keys := [5, 14, 15, 16, 17, 18, 19, 21, 24, 25], ids := [16, 17, 18, 19], n := 175, nx := 24 }
structure GC where
  r : Int
  many : Int
  e : Int
  last : Int
  j : Int
  ax : Int
  ay : Int
  bx : Int
  bY : Int
  cx : Int
  cy : Int
  dx : Int
  dy : Int
def pt (x y : Int) : Option Blk := some ⟨35, [.int .i64 x, .int .i64 y], true⟩
def sn_contact (g : GC) (j : Int) : Snap := ([.int .u16 g.r, .bool false, .int .i64 g.many, .ptr 16 0 0 0, .ptr 17 0 0 0, .ptr 18 0 0 0, .ptr 19 0 0 0, .int .i64 g.e, .int .i64 g.last, .int .i64 j], [pt g.ax g.ay, pt g.bx g.bY, pt g.cx g.cy, pt g.dx g.dy])
def at_contact (g : GC) : Snap := sn_contact g g.j
def en_contact : Snap → Option GC
  | ([.int .u16 r, .bool false, .int .i64 many, .ptr 16 0 0 0, .ptr 17 0 0 0, .ptr 18 0 0 0, .ptr 19 0 0 0, .int .i64 e, .int .i64 last, .int .i64 j],
     [some ⟨35, [.int .i64 ax, .int .i64 ay], true⟩, some ⟨35, [.int .i64 bx, .int .i64 bY], true⟩, some ⟨35, [.int .i64 cx, .int .i64 cy], true⟩, some ⟨35, [.int .i64 dx, .int .i64 dy], true⟩]) => some ⟨r, many, e, last, j, ax, ay, bx, bY, cx, cy, dx, dy⟩
  | _ => none
def smol (n : Int) : Prop := -2097152 ≤ n ∧ n ≤ 2097152
instance (n : Int) : Decidable (smol n) := by unfold smol; infer_instance
def xC (g : GC) (j : Int) : Int := g.many * (g.ax - g.cx) + j * (g.bx - g.dx)
def yC (g : GC) (j : Int) : Int := g.many * (g.ay - g.cy) + j * (g.bY - g.dy)
def inv_contact (g : GC) : Bool := decide ((0 ≤ g.r ∧ g.r ≤ 65535 ∧ 1 ≤ g.many ∧ g.many ≤ 100) ∧ (smol g.ax ∧ smol g.ay ∧ smol g.bx ∧ smol g.bY ∧ smol g.cx ∧ smol g.cy ∧ smol g.dx ∧ smol g.dy) ∧
  (0 ≤ g.j ∧ g.j ≤ g.last + 1 ∧ g.j ≤ g.many + 1 ∧ g.last ≤ g.many + 1) ∧ (g.j ≤ g.last → g.last = g.j + (fN (g.bx - g.dx) (g.bY - g.dy) (g.r * g.many) (g.many + 1 - g.j).toNat (xC g g.j) (yC g g.j) : Int)))
def fin_contact (g : GC) : Tree (Exit × Snap) := .br (inv_contact g) (.leaf (.exit 0, sn_contact g (min g.last g.many + 1))) .fail
def nearT {α : Type} (x y m : Int) (q : Bool) (t u : Tree α) : Tree α :=
  bif decide (max x (IntKind.i64.wrap (0 - x)) ≤ m) then bif decide (max y (IntKind.i64.wrap (0 - y)) ≤ m) then
      bif !(decide (IntKind.i64.wrap (IntKind.i64.wrap (x * x) + IntKind.i64.wrap (y * y)) ≤ IntKind.i64.wrap (m * m)) == q) then t else u
    else bif !(false == q) then t else u else bif !(false == q) then t else u
theorem abs_out {x m : Int} (h1 : -9223372036854775807 ≤ x) (h2 : x ≤ 9223372036854775807) : decide (max x (IntKind.i64.wrap (0 - x)) ≤ m) = !outB x (-m) m := by
  rw [wrap_id (by omega) (by omega)]
  unfold outB
  rw [Bool.eq_iff_iff]
  simp only [decide_eq_true_eq, Bool.not_eq_true', Bool.or_eq_false_iff, decide_eq_false_iff_not]
  omega
theorem near_sat {α : Type} {R : α → Prop} {x y m : Int} {q : Bool} {t u : Tree α} (hx1 : -9223372036854775807 ≤ x) (hx2 : x ≤ 9223372036854775807) (hy1 : -9223372036854775807 ≤ y) (hy2 : y ≤ 9223372036854775807) (hm : m ≤ 1000000000)
    (h1 : hit x y m ≠ q → t.sat R) (h2 : hit x y m = q → u.sat R) : (nearT x y m q t u).sat R := by
  unfold nearT
  rw [abs_out hx1 hx2, abs_out hy1 hy2]
  have fin : ∀ b : Bool, hit x y m = b → (bif !(b == q) then t else u).sat R := by
    intro b hb
    refine sat_cond (fun k => h1 ?_) (fun k => h2 ?_)
    · rw [hb]; simpa using k
    · rw [hb]; simpa using k
  refine sat_cond (fun k2 => sat_cond (fun k3 => ?_) (fun k3 => fin false ?_)) (fun k2 => fin false ?_)
  · have c2 := out_false (by simpa using k2)
    have c3 := out_false (by simpa using k3)
    have b5 := mul_bd (a := x) (b := x) (A := 1000000000) (B := 1000000000) (by omega) (by omega) (by omega) (by omega)
    have b6 := mul_bd (a := y) (b := y) (A := 1000000000) (B := 1000000000) (by omega) (by omega) (by omega) (by omega)
    have b7 := mul_bd (a := m) (b := m) (A := 1000000000) (B := 1000000000) (by omega) (by omega) (by omega) (by omega)
    rw [wrap_id (n := x * x) (by omega) (by omega), wrap_id (n := y * y) (by omega) (by omega), wrap_id (n := x * x + y * y) (by omega) (by omega), wrap_id (n := m * m) (by omega) (by omega)]
    refine fin _ ?_
    unfold hit; rw [k2, k3]; rfl
  · unfold hit; rw [k2, k3]; rfl
  · unfold hit; rw [k2]; rfl

theorem l_contact : LoopOk Try.prog lb_contact (loopSum lv_contact en_contact fin_contact) := by
  refine loopOk_of (X := ctx Try.prog pl_contact []) (ctx_ok mixed pu_contact fns_nil) 1 (fun _ => none) (fun _ _ f h => by simp at h) lv_contact en_contact fin_contact at_contact (fun g => inv_contact g = true) (fun g => (g.many + 1 - g.j).toNat) ?_ ?_ ?_ ?_
  · intro v g h
    unfold en_contact at h
    split at h
    · simp at h; subst h; rfl
    · simp at h
  · intro g _; rfl
  · intro g R h _
    unfold fin_contact at h
    cases hi : inv_contact g with
    | true => rfl
    | false => simp [hi, Tree.sat] at h
  · intro g hI _
    have e : evC (α := Exit × Bool × Snap) Try.prog (evFn (ctx Try.prog pl_contact []) 1) pl_contact 64 (fun _ => none) lb_contact (ofSnap lv_contact (at_contact g)) (fun e s' => .leaf (e, Nat.beq s'.n lv_contact.n && snapBd lv_contact (snap lv_contact s'), snap lv_contact s')) =
        bif decide (g.j ≤ g.many) then bif decide (g.j ≤ g.last) then
          nearT (IntKind.i64.wrap (IntKind.i64.wrap (g.many * IntKind.i64.wrap (g.ax - g.cx)) + IntKind.i64.wrap (g.j * IntKind.i64.wrap (g.bx - g.dx)))) (IntKind.i64.wrap (IntKind.i64.wrap (g.many * IntKind.i64.wrap (g.ay - g.cy)) + IntKind.i64.wrap (g.j * IntKind.i64.wrap (g.bY - g.dy))))
            (IntKind.i64.wrap (g.many * IntKind.i64.wrap g.r)) (g.j == g.last) (.leaf (Exit.ret, true, sn_contact g g.j)) (.leaf (Exit.normal, true, sn_contact g (IntKind.i64.wrap (g.j + 1))))
        else .leaf (Exit.exit 0, true, sn_contact g g.j) else .leaf (Exit.exit 0, true, sn_contact g g.j) := by kernel_rfl
    have hI0 := hI
    unfold inv_contact at hI0
    obtain ⟨⟨h1, h2, h3, h4⟩, ⟨s1, s2, s3, s4, s5, s6, s7, s8⟩, ⟨h5, h6, h7, h8⟩, h9⟩ := of_decide_eq_true hI0
    unfold smol at s1 s2 s3 s4 s5 s6 s7 s8
    show (evC (α := Exit × Bool × Snap) Try.prog (evFn (ctx Try.prog pl_contact []) 1) pl_contact 64 (fun _ => none) lb_contact (ofSnap lv_contact (at_contact g)) (fun e s' => .leaf (e, Nat.beq s'.n lv_contact.n && snapBd lv_contact (snap lv_contact s'), snap lv_contact s'))).sat _
    have b1 := mul_bd (a := g.many) (b := g.ax - g.cx) (A := 100) (B := 4194304) (by omega) (by omega) (by omega) (by omega)
    have b2 := mul_bd (a := g.many) (b := g.ay - g.cy) (A := 100) (B := 4194304) (by omega) (by omega) (by omega) (by omega)
    have b3 := mul_bd (a := g.j) (b := g.bx - g.dx) (A := 101) (B := 4194304) (by omega) (by omega) (by omega) (by omega)
    have b4 := mul_bd (a := g.j) (b := g.bY - g.dy) (A := 101) (B := 4194304) (by omega) (by omega) (by omega) (by omega)
    have b5 := mul_bd (a := g.many) (b := g.r) (A := 100) (B := 65535) (by omega) (by omega) (by omega) (by omega)
    rw [e, wrap_id (n := g.ax - g.cx) (by omega) (by omega), wrap_id (n := g.ay - g.cy) (by omega) (by omega), wrap_id (n := g.bx - g.dx) (by omega) (by omega), wrap_id (n := g.bY - g.dy) (by omega) (by omega), wrap_id (n := g.r) (by omega) (by omega),
      wrap_id (n := g.many * (g.ax - g.cx)) (by omega) (by omega), wrap_id (n := g.many * (g.ay - g.cy)) (by omega) (by omega), wrap_id (n := g.j * (g.bx - g.dx)) (by omega) (by omega), wrap_id (n := g.j * (g.bY - g.dy)) (by omega) (by omega),
      wrap_id (n := g.many * (g.ax - g.cx) + g.j * (g.bx - g.dx)) (by omega) (by omega), wrap_id (n := g.many * (g.ay - g.cy) + g.j * (g.bY - g.dy)) (by omega) (by omega), wrap_id (n := g.many * g.r) (by omega) (by omega), wrap_id (n := g.j + 1) (by omega) (by omega), Int.mul_comm g.many g.r]
    rw [Int.mul_comm g.many g.r] at b5
    have hend : min g.last g.many + 1 = g.j → ∀ R : Exit × Snap → Prop, (fin_contact g).sat R → R (Exit.exit 0, sn_contact g g.j) := by
      intro hj R hf
      unfold fin_contact at hf
      have hf2 := hf.1 hI
      rw [hj] at hf2
      exact hf2
    refine sat_cond (fun k1 => sat_cond (fun k2 => ?_) (fun k2 => ⟨rfl, fun _ => hend ?_⟩)) (fun k1 => ⟨rfl, fun _ => hend ?_⟩)
    · have k1' := of_decide_eq_true k1
      have k2' := of_decide_eq_true k2
      have hl := h9 k2'
      have ef : (g.many + 1 - g.j).toNat = (g.many + 1 - (g.j + 1)).toNat + 1 := by omega
      refine near_sat (by omega) (by omega) (by omega) (by omega) (by omega) (fun k3 => ?_) (fun k3 => ⟨rfl, ?_⟩)
      · exfalso
        have k3' : hit (xC g g.j) (yC g g.j) (g.r * g.many) ≠ (g.j == g.last) := k3
        cases hh : hit (xC g g.j) (yC g g.j) (g.r * g.many) with
        | true =>
          rw [ef, fN_hit hh] at hl
          rw [hh] at k3'
          have : g.j = g.last := by omega
          simp [this] at k3'
        | false =>
          rw [ef, fN_miss hh] at hl
          rw [hh] at k3'
          have : g.j = g.last := by simpa using k3'
          omega
      · refine ⟨{ g with j := g.j + 1 }, rfl, fun _ => ?_⟩
        have hI' : inv_contact { g with j := g.j + 1 } = true := by
          unfold inv_contact
          refine decide_eq_true ⟨⟨h1, h2, h3, h4⟩, ⟨s1, s2, s3, s4, s5, s6, s7, s8⟩, ⟨by dsimp only; omega, by dsimp only; omega, by dsimp only; omega, h8⟩, ?_⟩
          dsimp only
          intro hlt
          have k3' : hit (xC g g.j) (yC g g.j) (g.r * g.many) = (g.j == g.last) := k3
          have : (g.j == g.last) = false := by simp; omega
          rw [this] at k3'
          rw [ef, fN_miss k3'] at hl
          have e1 : xC g g.j + (g.bx - g.dx) = xC { g with j := g.j + 1 } (g.j + 1) := by unfold xC; dsimp only; grind
          have e2 : yC g g.j + (g.bY - g.dy) = yC { g with j := g.j + 1 } (g.j + 1) := by unfold yC; dsimp only; grind
          rw [e1, e2] at hl
          omega
        refine ⟨hI', by show (g.many + 1 - (g.j + 1)).toNat < _; omega, fun R hf => ?_⟩
        unfold fin_contact at hf ⊢
        exact ⟨fun _ => hf.1 hI, fun h => by rw [hI'] at h; simp at h⟩
    · have := of_decide_eq_false k2
      omega
    · have := of_decide_eq_false k1
      omega

def tl_contact (g : GC) : Tree Unit :=
  bif inv_contact g then bif decide (g.last ≥ 0) then bif g.e != 0 then .leaf () else bif decide (g.last ≤ g.many) then .leaf () else .fail else .fail else .fail
def t_contact (px py vx vy qx qy wx wy r n : Int) : Tree Unit :=
  bif (Fs px py vx vy qx qy wx wy (IntKind.i64.wrap r) n).1 != (Fs qx qy wx wy px py vx vy (IntKind.i64.wrap r) n).1 then .fail else
  bif (Fs px py vx vy qx qy wx wy (IntKind.i64.wrap r) n).2 != (Fs qx qy wx wy px py vx vy (IntKind.i64.wrap r) n).2 then .fail else
  bif (Fs px py vx vy qx qy wx wy (IntKind.i64.wrap r) n).2 != 0 then bif (Fs px py vx vy qx qy wx wy (IntKind.i64.wrap r) n).2 != 5 then .fail else
    bif (Fs px py vx vy qx qy wx wy (IntKind.i64.wrap r) n).2 == 5 then tl_contact ⟨r, n, (Fs px py vx vy qx qy wx wy (IntKind.i64.wrap r) n).2, IntKind.i64.wrap (n + 1), 0, px, py, vx, vy, qx, qy, wx, wy⟩
    else tl_contact ⟨r, n, (Fs px py vx vy qx qy wx wy (IntKind.i64.wrap r) n).2, (Fs px py vx vy qx qy wx wy (IntKind.i64.wrap r) n).1, 0, px, py, vx, vy, qx, qy, wx, wy⟩
  else bif (Fs px py vx vy qx qy wx wy (IntKind.i64.wrap r) n).2 == 5 then tl_contact ⟨r, n, (Fs px py vx vy qx qy wx wy (IntKind.i64.wrap r) n).2, IntKind.i64.wrap (n + 1), 0, px, py, vx, vy, qx, qy, wx, wy⟩
    else tl_contact ⟨r, n, (Fs px py vx vy qx qy wx wy (IntKind.i64.wrap r) n).2, (Fs px py vx vy qx qy wx wy (IntKind.i64.wrap r) n).1, 0, px, py, vx, vy, qx, qy, wx, wy⟩

theorem smol_fpt {x y : Int} (h : smol x) (k : smol y) : fpt x y = true := by
  unfold smol at h k; unfold fpt
  exact decide_eq_true (by omega)
theorem jFs_swap (px py vx vy qx qy wx wy r n : Int) : jFs qx qy wx wy px py vx vy r n = jFs px py vx vy qx qy wx wy r n := by
  unfold jFs
  have e1 : wx - vx = -(vx - wx) := by omega
  have e2 : wy - vy = -(vy - wy) := by omega
  have e3 : n * (qx - px) = -(n * (px - qx)) := by grind
  have e4 : n * (qy - py) = -(n * (py - qy)) := by grind
  rw [e1, e2, e3, e4, fN_neg]

theorem contact_law (px py vx vy qx qy wx wy r n : Int) (s1 : smol px) (s2 : smol py) (s3 : smol vx) (s4 : smol vy) (s5 : smol qx) (s6 : smol qy) (s7 : smol wx) (s8 : smol wy) (hr1 : 0 ≤ r) (hr2 : r ≤ 65535) (hn1 : 1 ≤ n) (hn2 : n ≤ 100) :
    (t_contact px py vx vy qx qy wx wy r n).sat (fun _ => True) := by
  have o1 : outB r 0 131072 = false := by unfold outB; simp; omega
  have o2 : outB n 1 1024 = false := by unfold outB; simp; omega
  have hF : Fs px py vx vy qx qy wx wy r n = bif Nat.blt (jFs px py vx vy qx qy wx wy r n) (n + 1).toNat then ((jFs px py vx vy qx qy wx wy r n : Int), 0) else (0, 5) := by
    unfold Fs; rw [smol_fpt s1 s2, smol_fpt s3 s4, smol_fpt s5 s6, smol_fpt s7 s8, o1, o2]; rfl
  have hF' : Fs qx qy wx wy px py vx vy r n = Fs px py vx vy qx qy wx wy r n := by
    rw [hF]; unfold Fs; rw [smol_fpt s1 s2, smol_fpt s3 s4, smol_fpt s5 s6, smol_fpt s7 s8, o1, o2, jFs_swap]; rfl
  have hle : jFs px py vx vy qx qy wx wy r n ≤ (n + 1).toNat := fN_le _ _ _ _ _ _
  have hinv : ∀ e : Int, inv_contact ⟨r, n, e, (jFs px py vx vy qx qy wx wy r n : Int), 0, px, py, vx, vy, qx, qy, wx, wy⟩ = true := by
    intro e
    unfold inv_contact
    refine decide_eq_true ⟨⟨hr1, hr2, hn1, hn2⟩, ⟨s1, s2, s3, s4, s5, s6, s7, s8⟩, ⟨by dsimp only; omega, by dsimp only; omega, by dsimp only; omega, by dsimp only; omega⟩, fun _ => ?_⟩
    unfold xC yC jFs
    dsimp only
    simp only [Int.sub_zero, Int.zero_mul, Int.add_zero, Int.zero_add]
  unfold t_contact
  rw [wrap_id (n := r) (by omega) (by omega), hF', wrap_id (n := n + 1) (by omega) (by omega)]
  cases hb : Nat.blt (jFs px py vx vy qx qy wx wy r n) (n + 1).toNat with
  | true =>
    rw [hb, cond_true] at hF
    rw [hF]
    have hj : jFs px py vx vy qx qy wx wy r n < (n + 1).toNat := by simpa using hb
    refine sat_cond (fun k => by simp at k) (fun _ => sat_cond (fun k => by simp at k) (fun _ => sat_cond (fun k => by simp at k) (fun _ => sat_cond (fun k => by simp at k) (fun _ => ?_))))
    unfold tl_contact
    rw [hinv]
    refine sat_cond (fun _ => sat_cond (fun _ => sat_cond (fun _ => trivial) (fun _ => sat_cond (fun _ => trivial) (fun k => ?_))) (fun k => ?_)) (fun k => by simp at k)
    · have := of_decide_eq_false k; dsimp only at this; omega
    · have := of_decide_eq_false k; dsimp only at this; omega
  | false =>
    rw [hb, cond_false] at hF
    have hj : jFs px py vx vy qx qy wx wy r n = (n + 1).toNat := by
      have : ¬ jFs px py vx vy qx qy wx wy r n < (n + 1).toNat := by
        intro h; rw [← Nat.blt_eq, hb] at h; simp at h
      omega
    rw [hF]
    have hi := hinv 5
    rw [hj] at hi
    have e : (((n + 1).toNat : Nat) : Int) = n + 1 := by omega
    rw [e] at hi
    refine sat_cond (fun k => by simp at k) (fun _ => sat_cond (fun k => by simp at k) (fun _ => sat_cond (fun _ => sat_cond (fun k => by simp at k) (fun _ => sat_cond (fun _ => ?_) (fun k => by simp at k))) (fun k => by simp at k)))
    unfold tl_contact
    rw [hi]
    refine sat_cond (fun _ => sat_cond (fun _ => sat_cond (fun _ => trivial) (fun k => by simp at k)) (fun k => ?_)) (fun k => by simp at k)
    have := of_decide_eq_false k; dsimp only at this; omega

noncomputable def X_contact : Ctx := ctxL Try.prog pl_contact [(4, Try.f4)] [((4, Ev.keyOf lb_contact), loopSum lv_contact en_contact fin_contact)]
theorem X_contact_ok : CtxOk X_contact := ctxL_ok mixed pu_contact (fns_cons is_TurfContact fns_nil) (loops_one (by kernel_rfl) l_contact)
theorem smol_sc {x s : Int} (hx : inK .i16 x) (hs : inK .u8 s) : smol (x * sc s) := by
  have h1 := inK_i16 hx
  have h2 := sc_bd hs
  have := mul_bd (a := x) (b := sc s) (A := 32768) (B := 64) (by omega) (by omega) (by omega) (by omega)
  unfold smol; omega

theorem contact_walk (px py vx vy qx qy wx wy s r n : Int) (h1 : inK .i16 px) (h2 : inK .i16 py) (h3 : inK .i16 vx) (h4 : inK .i16 vy) (h5 : inK .i16 qx) (h6 : inK .i16 qy) (h7 : inK .i16 wx) (h8 : inK .i16 wy) (hs : inK .u8 s) (hr : inK .u16 r) (hn : inK .u8 n) (w : World) :
    Calls Try.prog 4 #[.agg #[.int .i16 px, .int .i16 py], .agg #[.int .i16 vx, .int .i16 vy], .agg #[.int .i16 qx, .int .i16 qy], .agg #[.int .i16 wx, .int .i16 wy], .int .u8 s, .int .u16 r, .int .u8 n] w fun e w' => e = .returned (.bool true) ∧ Below w.heap.size w w' := by
  have e : evFn X_contact 3 4 [.agg [.int .i16 px, .int .i16 py], .agg [.int .i16 vx, .int .i16 vy], .agg [.int .i16 qx, .int .i16 qy], .agg [.int .i16 wx, .int .i16 wy], .int .u8 s, .int .u16 r, .int .u8 n] noHeap 0 lawK =
      t_contact (px * sc s) (py * sc s) (vx * sc s) (vy * sc s) (qx * sc s) (qy * sc s) (wx * sc s) (wy * sc s) r (IntKind.i64.wrap (1 + (IntKind.i64.wrap n).tmod 100)) := by kernel_rfl
  refine law_calls (xs := [.agg [.int .i16 px, .int .i16 py], .agg [.int .i16 vx, .int .i16 vy], .agg [.int .i16 qx, .int .i16 qy], .agg [.int .i16 wx, .int .i16 wy], .int .u8 s, .int .u16 r, .int .u8 n])
    (us := [.agg #[.int .i16 px, .int .i16 py], .agg #[.int .i16 vx, .int .i16 vy], .agg #[.int .i16 qx, .int .i16 qy], .agg #[.int .i16 wx, .int .i16 wy], .int .u8 s, .int .u16 r, .int .u8 n]) X_contact_ok 3 ?_ ?_
  · simp only [repL_consI, repL_nilI, rep_aggI, rep_intI, and_true]
    exact ⟨⟨h1, h2⟩, ⟨h3, h4⟩, ⟨h5, h6⟩, ⟨h7, h8⟩, hs, hr, hn⟩
  · have hn' := inK_u8 hn
    have hr' : 0 ≤ r ∧ r ≤ 65535 := hr
    have k1 := tm_bd n 100 (by omega)
    have k2 := Int.tmod_nonneg 100 hn'.1
    rw [e, wrap_id (n := n) (by omega) (by omega), wrap_id (n := 1 + n.tmod 100) (by omega) (by omega)]
    exact contact_law _ _ _ _ _ _ _ _ _ _ (smol_sc h1 hs) (smol_sc h2 hs) (smol_sc h3 hs) (smol_sc h4 hs) (smol_sc h5 hs) (smol_sc h6 hs) (smol_sc h7 hs) (smol_sc h8 hs) hr'.1 hr'.2 (by omega) (by omega)
end Go.Proofs.Ythgmpjljlpacgaa
