/- Contracts of the reference roquetref01: Parted, First, Towards. -/
import Derived.Test.YtmmhbianajpdgaaTe
namespace Go.Proofs.Ytmmhbianajpdgaa
open Go.RowKit Ev
theorem loops_two {P : Program} {f : Nat} {fn : Func} {lb lc : Code} {s1 s2 : St → Tree (Exit × St)} {fns : List (Nat × Func)} (h1 : loopsOf (bodyOf fn) = [lb, lc]) (hk : Nat.beq (Ev.keyOf lb) (Ev.keyOf lc) = false) (h2 : LoopOk P lb s1) (h2' : LoopOk P lc s2) (h3 : ∀ p ∈ fns, p.1 = f → p.2 = fn) :
    ∀ p ∈ fns, ∀ d ∈ loopsOf (bodyOf p.2), ∀ g, assoc2 [((f, Ev.keyOf lb), s1), ((f, Ev.keyOf lc), s2)] p.1 (Ev.keyOf d) = some g → LoopOk P d g := by
  intro p hp d hd g hg
  by_cases h : p.1 = f
  · rw [h3 p hp h, h1] at hd
    simp only [List.mem_cons, List.not_mem_nil, or_false] at hd
    rcases hd with rfl | rfl
    · simp [assoc2, h] at hg
      subst hg
      exact h2
    · simp [assoc2, h, hk] at hg
      subst hg
      exact h2'
  · have hb : Nat.beq f p.1 = false := by rw [← Bool.not_eq_true, Nat.beq_eq]; exact fun x => h x.symm
    simp [assoc2, hb] at hg

/-! Parted: the quotient, and one more, or one less, for as long as the rest is not in its range -/
noncomputable def lb_p1 : Code := (loopsOf (bodyOf Try.f62)).getD 0 .skip
noncomputable def lb_p2 : Code := (loopsOf (bodyOf Try.f62)).getD 1 .skip
def lv_p : Lv := { keys := [0, 1, 4, 5], ids := [0], n := 37, nx := 1 }
def at_p (g : Int × Int × Int) : Snap := ([.int .i64 g.1, .int .i64 g.2.1, .ptr 0 0 0 0, .int .i64 g.2.2], [some ⟨86, [.int .i64 0, .int .i64 0], true⟩])
def en_p : Snap → Option (Int × Int × Int)
  | ([.int .i64 n, .int .i64 d, .ptr 0 0 0 0, .int .i64 w], [some ⟨86, [.int .i64 0, .int .i64 0], true⟩]) => some (n, d, w)
  | _ => none
def inv_p1 (g : Int × Int × Int) : Bool := dvOk g.1 g.2.1 && decide (DW g.1 g.2.1 - 1 ≤ g.2.2 ∧ g.2.2 ≤ DW g.1 g.2.1 + 1)
def fin_p1 (g : Int × Int × Int) : Tree (Exit × Snap) := .br (inv_p1 g) (.leaf (.exit 0, at_p (g.1, g.2.1, max g.2.2 (DW g.1 g.2.1)))) .fail
def inv_p2 (g : Int × Int × Int) : Bool := dvOk g.1 g.2.1 && decide (DW g.1 g.2.1 ≤ g.2.2 ∧ g.2.2 ≤ DW g.1 g.2.1 + 1)
def fin_p2 (g : Int × Int × Int) : Tree (Exit × Snap) := .br (inv_p2 g) (.leaf (.exit 2, at_p (g.1, g.2.1, DW g.1 g.2.1))) .fail
/-- the rest of a quotient that differs by j from the rounded one -/
theorem rest_off {n d w j : Int} (hd : 1 ≤ d) (hw : w = DW n d + j) : n - w * d = DR n d - j * d := by
  obtain ⟨a, _, _⟩ := dw_spec n d hd
  rw [hw]
  have : (DW n d + j) * d = DW n d * d + j * d := by grind
  omega
theorem p_wraps {n d w : Int} (hok : dvOk n d = true) (h1 : DW n d - 1 ≤ w) (h2 : w ≤ DW n d + 1) :
    IntKind.i64.wrap (2 * IntKind.i64.wrap (n - IntKind.i64.wrap (w * d))) = 2 * (n - w * d) ∧ IntKind.i64.wrap (n - IntKind.i64.wrap (w * d)) = n - w * d ∧ IntKind.i64.wrap (w + 1) = w + 1 ∧ IntKind.i64.wrap (w - 1) = w - 1 ∧ -9223372036854775807 ≤ w ∧ w ≤ 9223372036854775807 := by
  unfold dvOk at hok
  obtain ⟨k1, k2, k3, k4⟩ := of_decide_eq_true hok
  obtain ⟨a1, a2, a3⟩ := dw_spec n d k3
  have hb := dw_bd n d 1152921504606846976 k3 (by omega) (by omega) (by omega)
  have hr : n - w * d = DR n d - (w - DW n d) * d := rest_off k3 (by omega)
  have hj := mul_bd (a := w - DW n d) (b := d) (A := 1) (B := d) (by omega) (by omega) (by omega) (by omega)
  rw [wrap_id (n := w * d) (by omega) (by omega), wrap_id (n := n - w * d) (by omega) (by omega), wrap_id (n := 2 * (n - w * d)) (by omega) (by omega), wrap_id (n := w + 1) (by omega) (by omega), wrap_id (n := w - 1) (by omega) (by omega)]
  exact ⟨rfl, rfl, rfl, rfl, by omega, by omega⟩
theorem l_p1 : LoopOk Try.prog lb_p1 (loopSum lv_p en_p fin_p1) := by
  refine loopOk_of (X := ctx Try.prog [] []) (ctx_ok mixed puOk_nil fns_nil) 1 (fun _ => none) (fun _ _ f h => by simp at h) lv_p en_p fin_p1 at_p (fun g => inv_p1 g = true) (fun g => (DW g.1 g.2.1 + 1 - g.2.2).toNat) ?_ ?_ ?_ ?_
  · intro v g h
    unfold en_p at h
    split at h
    · simp at h; subst h; rfl
    · simp at h
  · intro g _; rfl
  · intro g R h _
    unfold fin_p1 at h
    cases hi : inv_p1 g with
    | true => rfl
    | false => simp [hi, Tree.sat] at h
  · rintro ⟨n, d, w⟩ hI _
    have e : evC (α := Exit × Bool × Snap) Try.prog (evFn (ctx Try.prog [] []) 1) [] 64 (fun _ => none) lb_p1 (ofSnap lv_p (at_p (n, d, w))) (fun e s' => .leaf (e, Nat.beq s'.n lv_p.n && snapBd lv_p (snap lv_p s'), snap lv_p s')) =
        bif decide (IntKind.i64.wrap (2 * IntKind.i64.wrap (n - IntKind.i64.wrap (w * d))) ≥ d) then .leaf (Exit.normal, true, at_p (n, d, IntKind.i64.wrap (w + 1))) else .leaf (Exit.exit 0, true, at_p (n, d, w)) := by kernel_rfl
    have hI0 := hI
    unfold inv_p1 at hI0
    rw [Bool.and_eq_true] at hI0
    obtain ⟨hok, hI1⟩ := hI0
    obtain ⟨h1, h2⟩ := of_decide_eq_true hI1
    dsimp only at hok h1 h2
    obtain ⟨w1, w2, w3, w4, w5⟩ := p_wraps hok h1 h2
    have hok' := hok
    unfold dvOk at hok'
    obtain ⟨k1, k2, k3, k4⟩ := of_decide_eq_true hok'
    obtain ⟨a1, a2, a3⟩ := dw_spec n d k3
    have hr : n - w * d = DR n d - (w - DW n d) * d := rest_off k3 (by omega)
    show (evC (α := Exit × Bool × Snap) Try.prog (evFn (ctx Try.prog [] []) 1) [] 64 (fun _ => none) lb_p1 (ofSnap lv_p (at_p (n, d, w))) (fun e s' => .leaf (e, Nat.beq s'.n lv_p.n && snapBd lv_p (snap lv_p s'), snap lv_p s'))).sat _
    rw [e, w1, w3, hr]
    refine sat_cond (fun q => ⟨rfl, (n, d, w + 1), rfl, fun _ => ?_⟩) (fun q => ⟨rfl, fun _ R hf => ?_⟩)
    · have q' := of_decide_eq_true q
      have hlt : w = DW n d - 1 := by
        rcases (show w = DW n d - 1 ∨ w = DW n d ∨ w = DW n d + 1 by omega) with x | x | x
        · exact x
        · rw [x, Int.sub_self] at q'; omega
        · rw [show w - DW n d = 1 by omega] at q'; omega
      have hI' : inv_p1 (n, d, w + 1) = true := by
        unfold inv_p1; rw [hok]; exact decide_eq_true (by dsimp only; omega)
      refine ⟨hI', by dsimp only; omega, fun R hf => ?_⟩
      unfold fin_p1 at hf ⊢
      refine ⟨fun _ => ?_, fun h => by rw [hI'] at h; simp at h⟩
      have hf2 := hf.1 hI
      dsimp only at hf2 ⊢
      rw [show max (w + 1) (DW n d) = max w (DW n d) by omega]
      exact hf2
    · have q' := of_decide_eq_false q
      have hge : DW n d ≤ w := by
        rcases (show w = DW n d - 1 ∨ DW n d ≤ w by omega) with x | x
        · rw [show w - DW n d = -1 by omega] at q'; omega
        · exact x
      unfold fin_p1 at hf
      have hf2 := hf.1 hI
      dsimp only at hf2
      rw [show max w (DW n d) = w by omega] at hf2
      exact hf2
theorem l_p2 : LoopOk Try.prog lb_p2 (loopSum lv_p en_p fin_p2) := by
  refine loopOk_of (X := ctx Try.prog [] []) (ctx_ok mixed puOk_nil fns_nil) 1 (fun _ => none) (fun _ _ f h => by simp at h) lv_p en_p fin_p2 at_p (fun g => inv_p2 g = true) (fun g => (g.2.2 - DW g.1 g.2.1).toNat) ?_ ?_ ?_ ?_
  · intro v g h
    unfold en_p at h
    split at h
    · simp at h; subst h; rfl
    · simp at h
  · intro g _; rfl
  · intro g R h _
    unfold fin_p2 at h
    cases hi : inv_p2 g with
    | true => rfl
    | false => simp [hi, Tree.sat] at h
  · rintro ⟨n, d, w⟩ hI _
    have e : evC (α := Exit × Bool × Snap) Try.prog (evFn (ctx Try.prog [] []) 1) [] 64 (fun _ => none) lb_p2 (ofSnap lv_p (at_p (n, d, w))) (fun e s' => .leaf (e, Nat.beq s'.n lv_p.n && snapBd lv_p (snap lv_p s'), snap lv_p s')) =
        bif decide (IntKind.i64.wrap (2 * IntKind.i64.wrap (n - IntKind.i64.wrap (w * d))) < IntKind.i64.wrap (0 - d)) then .leaf (Exit.normal, true, at_p (n, d, IntKind.i64.wrap (w - 1))) else .leaf (Exit.exit 2, true, at_p (n, d, w)) := by kernel_rfl
    have hI0 := hI
    unfold inv_p2 at hI0
    rw [Bool.and_eq_true] at hI0
    obtain ⟨hok, hI1⟩ := hI0
    obtain ⟨h1, h2⟩ := of_decide_eq_true hI1
    dsimp only at hok h1 h2
    obtain ⟨w1, w2, w3, w4, w5⟩ := p_wraps hok (by omega) h2
    have hok' := hok
    unfold dvOk at hok'
    obtain ⟨k1, k2, k3, k4⟩ := of_decide_eq_true hok'
    obtain ⟨a1, a2, a3⟩ := dw_spec n d k3
    have hr : n - w * d = DR n d - (w - DW n d) * d := rest_off k3 (by omega)
    show (evC (α := Exit × Bool × Snap) Try.prog (evFn (ctx Try.prog [] []) 1) [] 64 (fun _ => none) lb_p2 (ofSnap lv_p (at_p (n, d, w))) (fun e s' => .leaf (e, Nat.beq s'.n lv_p.n && snapBd lv_p (snap lv_p s'), snap lv_p s'))).sat _
    rw [e, w1, w4, hr, wrap_id (n := 0 - d) (by omega) (by omega)]
    refine sat_cond (fun q => ⟨rfl, (n, d, w - 1), rfl, fun _ => ?_⟩) (fun q => ⟨rfl, fun _ R hf => ?_⟩)
    · have q' := of_decide_eq_true q
      have hlt : w = DW n d + 1 := by
        rcases (show w = DW n d ∨ w = DW n d + 1 by omega) with x | x
        · rw [x, Int.sub_self] at q'; omega
        · exact x
      have hI' : inv_p2 (n, d, w - 1) = true := by
        unfold inv_p2; rw [hok]; exact decide_eq_true (by dsimp only; omega)
      refine ⟨hI', by dsimp only; omega, fun R hf => ?_⟩
      unfold fin_p2 at hf ⊢
      exact ⟨fun _ => hf.1 hI, fun h => by rw [hI'] at h; simp at h⟩
    · have q' := of_decide_eq_false q
      have hge : w = DW n d := by
        rcases (show w = DW n d ∨ w = DW n d + 1 by omega) with x | x
        · exact x
        · rw [show w - DW n d = 1 by omega] at q'; omega
      unfold fin_p2 at hf
      have hf2 := hf.1 hI
      dsimp only at hf2
      rw [← hge] at hf2
      exact hf2
noncomputable def X_Parted : Ctx := ctxL Try.prog [] [(62, Try.f62)] [((62, Ev.keyOf lb_p1), loopSum lv_p en_p fin_p1), ((62, Ev.keyOf lb_p2), loopSum lv_p en_p fin_p2)]
theorem X_Parted_ok : CtxOk X_Parted := ctxL_ok mixed puOk_nil (fns_cons is_Parted fns_nil) (loops_two (fn := Try.f62) (by kernel_rfl) (by kernel_rfl) l_p1 l_p2 (fun p hp _ => by rw [List.mem_singleton] at hp; rw [hp]))
theorem p_Parted : PureOk Try.prog 62 g_divide := by
  refine pureOk_of_ev X_Parted_ok 3 fun xs x hw h => ?_
  unfold g_divide at h
  split at h
  · rename_i n d
    simp only [Option.some.injEq, Prod.mk.injEq] at h
    obtain ⟨hok, rfl⟩ := h
    refine ⟨rfl, ?_⟩
    have e : evFn X_Parted 3 62 [.int .i64 n, .int .i64 d] noHeap 0 outK =
      let w := IntKind.i64.wrap (n.tdiv d)
      bif d != 0 then bif inv_p1 (n, d, w) then bif inv_p2 (n, d, max w (DW n d)) then .leaf (.agg [.int .i64 (DW n d), .int .i64 (IntKind.i64.wrap (n - IntKind.i64.wrap (DW n d * d)))]) else .fail else .fail else .fail := by kernel_rfl
    rw [e]
    dsimp only
    have hok' := hok
    unfold dvOk at hok'
    obtain ⟨k1, k2, k3, k4⟩ := of_decide_eq_true hok'
    have b := td_bd n d 1152921504606846976 k3 (by omega) (by omega)
    have hd : (d != 0) = true := by simp; omega
    rw [wrap_id (n := n.tdiv d) (by omega) (by omega), hd]
    have near : DW n d - 1 ≤ n.tdiv d ∧ n.tdiv d ≤ DW n d + 1 := by
      rcases Int.lt_or_le (2 * n.tmod d) d with x | x
      · rcases Int.lt_or_le (2 * n.tmod d) (-d) with y | y
        · have := (dw_lo n d k3 y).1; omega
        · have := (dw_mid n d k3 x y).1; omega
      · have := (dw_hi n d k3 x).1; omega
    have i1 : inv_p1 (n, d, n.tdiv d) = true := by unfold inv_p1; rw [hok]; exact decide_eq_true near
    have i2 : inv_p2 (n, d, max (n.tdiv d) (DW n d)) = true := by unfold inv_p2; rw [hok]; exact decide_eq_true (by dsimp only; omega)
    rw [i1, i2, (p_wraps hok (w := DW n d) (by omega) (by omega)).2.1]
    refine sat_leaf ?_
    rfl
  · simp at h
end Go.Proofs.Ytmmhbianajpdgaa
