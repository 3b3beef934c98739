/- The reference: numbers of scenes, lists of known values, values: the walks. -/
import Derived.Test.YtdblbofagfhlbaaJq
namespace Go.Proofs.Ytdblbofagfhlbaa
open Go.RowKit
namespace V
theorem is_rnum : FnIs Try.prog (88, Try.f88) := ⟨Try.func88, by kernel_rfl, by kernel_rfl⟩
theorem is_rknown : FnIs Try.prog (62, Try.f62) := ⟨Try.func62, by kernel_rfl, by kernel_rfl⟩
theorem is_rvalue : FnIs Try.prog (63, Try.f63) := ⟨Try.func63, by kernel_rfl, by kernel_rfl⟩
theorem is_rworth : FnIs Try.prog (67, Try.f67) := ⟨Try.func67, by kernel_rfl, by kernel_rfl⟩
theorem is_rbest : FnIs Try.prog (69, Try.f69) := ⟨Try.func69, by kernel_rfl, by kernel_rfl⟩
/-! numbers of scenes -/
def baseN (b : TCT cB) : Int := W64 (W64 (2 * cellsF b) + 1)
def stN {α : Type} (b : TCT cB) (l : List Int) (d : List Bool) (i n : Int) (K : Int → Tree α) : Tree α := bif decide (i < (l.length : Int)) then bif decide (0 ≤ i ∧ i < (l.length : Int)) then
  bif decide (0 ≤ i ∧ i < (d.length : Int)) then bif getA d i.toNat (dflt .b) then K (W64 (W64 (W64 (W64 (n * baseN b) + 1) + W64 (2 * getA l i.toNat (dflt cI))) + 1)) else K (W64 (W64 (W64 (n * baseN b) + 1) + W64 (2 * getA l i.toNat (dflt cI)))) else .fail else .fail else K (W64 (n * baseN b))
def sA (x : TCT cSc) : Int := x.1
def sH (x : TCT cSc) : Int := x.2.1
def sB (x : TCT cSc) : List Int := x.2.2.1
def sD (x : TCT cSc) : List Bool := x.2.2.2.1
def T_num (b : TCT cB) (x : TCT cSc) : Tree (TCTs [cI]) := stN b (sB x) (sD x) 0 (W64 (W64 (sH x * cellsF b) + sA x)) fun n => stN b (sB x) (sD x) (W64 (0 + 1)) n fun m => .leaf (m, ())
def dgN (l : List Int) (d : List Bool) (i : Nat) : Int := bif decide (i < l.length) then bif getA d i false then 2 + 2 * getA l i (0 : Int) else 1 + 2 * getA l i (0 : Int) else 0
def bsN (b : TCT cB) : Int := 2 * cellsF b + 1
def numN (b : TCT cB) (x : TCT cSc) : Int := ((sH x * cellsF b + sA x) * bsN b + dgN (sB x) (sD x) 0) * bsN b + dgN (sB x) (sD x) 1
abbrev s_num : PureT := spec [cB, cSc] [cI] (fun x => bOk x.1 && placeOk x.1 x.2.1) (fun x => (numN x.1 x.2.1, ()))
theorem stN_sat {α : Type} {b : TCT cB} {l : List Int} {d : List Bool} {i : Nat} {n : Int} {K : Int → Tree α} {R : α → Prop} (hb : baseN b = bsN b) (hbn : 3 ≤ bsN b ∧ bsN b ≤ 19) (hl : l.length ≤ 2) (hd : d.length = l.length) (hi : i < 2) (hn : 0 ≤ n ∧ n ≤ 1000000)
    (hc : i < l.length → 0 ≤ getA l i (0 : Int) ∧ getA l i (0 : Int) ≤ 8) (k : (K (n * bsN b + dgN l d i)).sat R) : (stN b l d (i : Int) n K).sat R := by
  have h1 : n * bsN b ≤ 1000000 * 19 := mul_le2 hn.1 hn.2 (by omega) hbn.2
  have h2 : 0 ≤ n * bsN b := Int.mul_nonneg hn.1 (by omega)
  have ht : (i : Int).toNat = i := by omega
  unfold stN
  rw [hb, W64_id (n := n * bsN b) (by omega) (by omega), ht]
  unfold dgN at k
  by_cases h : i < l.length
  · have hc := hc h
    rw [decide_eq_true (show (i : Int) < (l.length : Int) by omega), decide_eq_true (show 0 ≤ (i : Int) ∧ (i : Int) < (l.length : Int) by omega), decide_eq_true (show 0 ≤ (i : Int) ∧ (i : Int) < (d.length : Int) by omega)]
    rw [decide_eq_true h] at k
    have e1 : dflt cI = (0 : Int) := rfl
    have e2 : dflt TC.b = false := rfl
    rw [e1, e2]
    generalize getA l i (0 : Int) = y at *
    simp only [cond_true] at k ⊢
    have e : W64 (W64 (n * bsN b + 1) + W64 (2 * y)) = n * bsN b + (1 + 2 * y) := by
      rw [W64_id (n := 2 * y) (by omega) (by omega), W64_id (n := n * bsN b + 1) (by omega) (by omega), W64_id (by omega) (by omega)]
      omega
    cases hq : getA d i false with
    | true =>
      rw [hq] at k
      simp only [cond_true] at k ⊢
      rw [e, W64_id (by omega) (by omega), show n * bsN b + (1 + 2 * y) + 1 = n * bsN b + (2 + 2 * y) by omega]
      exact k
    | false =>
      rw [hq] at k
      simp only [cond_false] at k ⊢
      rw [e]
      exact k
  · rw [decide_eq_false (show ¬ (i : Int) < (l.length : Int) by omega)]
    rw [decide_eq_false h, cond_false, Int.add_zero] at k
    exact k
theorem base_eq {b : TCT cB} (hb : OkB b) : baseN b = bsN b ∧ 3 ≤ bsN b ∧ bsN b ≤ 19 := by
  have h := hb.c.2
  unfold baseN bsN
  rw [W64_id (n := 2 * cellsF b) (by omega) (by omega), W64_id (by omega) (by omega)]
  omega
theorem scene_shape {b : TCT cB} {x : TCT cSc} (hp : placeOk b x = true) : (sB x).length ≤ 2 ∧ (sD x).length = (sB x).length ∧ ∀ i, i < (sB x).length → 0 ≤ getA (sB x) i (0 : Int) ∧ getA (sB x) i (0 : Int) < cellsF b := by
  unfold placeOk at hp
  simp only [Bool.and_eq_true_iff] at hp
  have h3 : ((sB x).length : Int) ≤ 2 := of_decide_eq_true hp.2.2.1
  have h4 : ((sD x).length : Int) = ((sB x).length : Int) := of_decide_eq_true hp.2.2.2.1
  refine ⟨by omega, by omega, fun i hi => ?_⟩
  have h5 : ∀ y ∈ sB x, cellOk b y = true := List.all_eq_true.1 hp.2.2.2.2
  rw [getA_lt hi]
  exact of_decide_eq_true (h5 _ (List.getElem_mem hi))
theorem dgN_le {c : Int} {l : List Int} {d : List Bool} {i : Nat} (h : i < l.length → 0 ≤ getA l i (0 : Int) ∧ getA l i (0 : Int) < c) (hc : 1 ≤ c) : 0 ≤ dgN l d i ∧ dgN l d i ≤ 2 * c := by
  unfold dgN
  by_cases hi : i < l.length
  · rw [decide_eq_true hi, cond_true]
    have h := h hi
    cases getA d i false with
    | true => simp only [cond_true]; omega
    | false => simp only [cond_false]; omega
  · rw [decide_eq_false hi, cond_false]
    omega
theorem head_num {b : TCT cB} {x : TCT cSc} (hp : placeOk b x = true) : 0 ≤ sH x * cellsF b + sA x ∧ sH x * cellsF b + sA x < (bN b + 1) * cellsF b := by
  have hP := place_okP hp
  have h1 : 0 ≤ sH x ∧ sH x ≤ bN b := hP.h
  have h2 : 0 ≤ sA x ∧ sA x < cellsF b := hP.a
  have h3 : sH x * cellsF b ≤ bN b * cellsF b := Int.mul_le_mul_of_nonneg_right h1.2 (by omega)
  have h4 : 0 ≤ sH x * cellsF b := Int.mul_nonneg h1.1 (by omega)
  have h5 : (bN b + 1) * cellsF b = bN b * cellsF b + cellsF b := by rw [Int.add_mul, Int.one_mul]
  omega
theorem T_num_ok {b : TCT cB} {x : TCT cSc} (h : (bOk b && placeOk b x) = true) : (T_num b x).sat (fun y => y = (numN b x, ())) := by
  rw [Bool.and_eq_true] at h
  have hB := okB_of h.1
  obtain ⟨h1, h2, h3⟩ := scene_shape h.2
  obtain ⟨e, hbs⟩ := base_eq hB
  have hc := hB.c.2
  have hn := head_num h.2
  have hbn := hB.n
  have hh : 0 ≤ sH x ∧ sH x ≤ bN b := (place_okP h.2).h
  have k1 : (bN b + 1) * cellsF b ≤ 7 * 9 := mul_le2 (by omega) (by omega) (by omega) hc.2
  have k2 : sH x * cellsF b ≤ 6 * 9 := mul_le2 hh.1 (by omega) (by omega) hc.2
  have k3 : 0 ≤ sH x * cellsF b := Int.mul_nonneg hh.1 (by omega)
  have hg : ∀ i, i < (sB x).length → 0 ≤ getA (sB x) i (0 : Int) ∧ getA (sB x) i (0 : Int) ≤ 8 := fun i hi => by have := h3 i hi; omega
  have e0 : W64 (W64 (sH x * cellsF b) + sA x) = sH x * cellsF b + sA x := by
    rw [W64_id (n := sH x * cellsF b) (by omega) (by omega), W64_id (by omega) (by omega)]
  unfold T_num
  rw [e0]
  have d0 := dgN_le (d := (sD x)) (h3 0) hc.1
  have p1 : (sH x * cellsF b + sA x) * bsN b ≤ 63 * 19 := mul_le2 hn.1 (by omega) (by omega) hbs.2
  have p2 : 0 ≤ (sH x * cellsF b + sA x) * bsN b := Int.mul_nonneg hn.1 (by omega)
  refine stN_sat (i := 0) e hbs h1 h2 (by omega) ⟨hn.1, by omega⟩ (hg 0) ?_
  have e1 : W64 (0 + 1) = ((1 : Nat) : Int) := by decide
  rw [e1]
  refine stN_sat (i := 1) e hbs h1 h2 (by omega) ⟨by omega, by omega⟩ (hg 1) ?_
  exact rfl
theorem q_num : PureOk Try.prog 88 s_num := q_by (ctxU_ok (u := 3) mixed (puOk_cons is_rcells.plain q_rcells puOk_nil) (fns_cons is_rnum fns_nil)) 6 (fun x => T_num x.1 x.2.1) (fun x => by kernel_rfl) fun x h _ => T_num_ok h
/-! a list of values that are not known -/
abbrev Kn : Type := List (TCT cC)
def xC : TCT cC := (-1, 0, ())
def bsKn (id : Nat) : List BK := [(id, 137, [.o 24 cC])]
noncomputable def lb_kn : Code := (loopsOf (bodyOf Try.f62)).getD 0 .skip
def L_kn : Lay := { keys := [3, 4, 5], ks := [.d cI, .p 1020 0 0 0, .d cI], bs := bsKn 1020, n := 40, nx := 2000, marks := [] }
def R_kn : Lay := { keys := [4], ks := [.p 1020 0 0 0], bs := bsKn 1020, n := 40, nx := 2000, marks := [] }
def E_kn : XE → Lay := fun _ => R_kn
def hd_kn (n i : Int) (l : Kn) : L_kn.T := ((n, (), i, ()), ((l, ()), ()))
def ex_kn (l : Kn) : Left' E_kn := ⟨.exit 0, (((), ()), ((l, ()), ()))⟩
def st_kn (n i : Int) (l : Kn) : Tree (L_kn.T ⊕ Left' E_kn) := bif decide (i < n) then bif decide (0 ≤ i ∧ i < (l.length : Int)) then bif decide (i.toNat < l.length) then
  .leaf (.inl (hd_kn n (W64 (i + 1)) (setA l i.toNat (-1, (getA l i.toNat (dflt cC)).2.1, ())))) else .fail else .fail else .leaf (.inr (ex_kn l))
def stg_kn (g : L_kn.T) : Tree (L_kn.T ⊕ Left' E_kn) := st_kn g.1.1 g.1.2.2.1 g.2.1.1
def fu_kn (g : L_kn.T) : Nat := g.1.1.toNat + 1
theorem l_kn : LoopOk Try.prog 62 lb_kn (loopSum L_kn E_kn (finX [.exit 0] stg_kn fu_kn)) := loopOk_x0 X_ss0_ok 7 _ L_kn E_kn (fun e => by cases e <;> exact Nat.le_refl _) _ stg_kn fu_kn (fun g => by kernel_rfl)
def lK (n i : Nat) : Kn := List.replicate i xC ++ List.replicate (n - i) (0, 0, ())
theorem it_kn (n : Nat) (hn : (n : Int) ≤ 65536) : iter stg_kn (n + 1) (hd_kn n 0 (List.replicate n (0, 0, ()))) = some (ex_kn (List.replicate n xC)) := by
  obtain ⟨_, _, h, _⟩ := iter_inv (st := stg_kn) (fun i (_ : Unit) => hd_kn n (i : Int) (lK n i)) (fun _ s => s) (fun _ => ex_kn (lK n n)) (fun _ _ => True) n (by
    intro i s hi _
    refine ⟨?_, trivial⟩
    show (st_kn (n : Int) (i : Int) (lK n i)).run = _
    have hl : (lK n i).length = n := by unfold lK; rw [List.length_append, List.length_replicate, List.length_replicate]; omega
    have ht : (i : Int).toNat = i := by omega
    unfold st_kn
    rw [hl, ht, decide_eq_true (show (i : Int) < (n : Int) by omega), decide_eq_true (show 0 ≤ (i : Int) ∧ (i : Int) < (n : Int) by omega), decide_eq_true hi, W64_succ hi (by simp only [maxK]; omega)]
    have e : setA (lK n i) i (-1, (getA (lK n i) i (dflt cC)).2.1, ()) = lK n (i + 1) := by
      have e1 : getA (lK n i) i (dflt cC) = (0, 0, ()) := by
        rw [getA_lt (by rw [hl]; exact hi)]
        unfold lK
        rw [List.getElem_append_right (by rw [List.length_replicate]; omega), List.getElem_replicate]
      rw [e1, setA_eq]
      unfold lK
      rw [show n - i = (n - (i + 1)) + 1 by omega, List.replicate_succ, List.set_append_right _ _ (by rw [List.length_replicate]; omega), List.length_replicate, Nat.sub_self, List.set_cons_zero, List.replicate_succ', List.append_assoc]
      rfl
    rw [e]
    rfl) (by
    intro s _
    show (st_kn (n : Int) (n : Int) (lK n n)).run = _
    unfold st_kn
    rw [decide_eq_false (show ¬ (n : Int) < (n : Int) by omega)]
    rfl) n 0 () (n + 1) (by omega) (by omega) trivial
  have e0 : lK n 0 = List.replicate n (0, 0, ()) := by unfold lK; rw [Nat.sub_zero]; rfl
  have e1 : lK n n = List.replicate n xC := by unfold lK; rw [Nat.sub_self]; simp
  rw [e0, e1] at h
  exact h
def sizeW (b : TCT cB) : Int := W64 (W64 (W64 (W64 (bN b + 1) * cellsF b) * baseN b) * baseN b)
def L_kf : FLay := { ks := [.d cB], bs := [], nx := 1000 }
def R_kf : FLay := { ks := [.p 1020 0 0 0], bs := bsKn 1020, nx := 3000 }
def N_kf : FLay := { ks := [], bs := [], nx := 3000 }
def E_kf (b : Bool) : FLay := bif b then R_kf else N_kf
def res_kf (l : Kn) : LeftF E_kf := ⟨true, (((), ()), ((l, ()), ()))⟩
def probe0 (_ : Heap) (_ : List AV) : Option (List Nat) := some []
def fin_kf (g : L_kf.T) : Tree (LeftF E_kf) := .br (bOk g.1.1) (.leaf (res_kf (List.replicate (sizeW g.1.1).toNat xC))) .fail
abbrev sp_known : Heap → Nat → List AV → Tree (Out × Heap × Nat) := fspec probe0 L_kf E_kf fin_kf
noncomputable def X_kn : Ctx := ctxL Try.prog [(87, s_rcells)] [(62, Try.f62)] [((62, 4), loopSum L_kn E_kn (finX [.exit 0] stg_kn fu_kn))]
theorem X_kn_ok : CtxOk X_kn := ctxL_ok mixed (puOk_cons is_rcells.plain q_rcells puOk_nil) (fns_cons is_rknown fns_nil) (loops_one (lb := lb_kn) (by kernel_rfl) (by kernel_rfl) l_kn)
def y_kn (n : Int) : Option (Left' E_kn) := iter stg_kn (n.toNat + 1) (hd_kn n 0 (List.replicate n.toNat (0, 0, ())))
def T_kn (b : TCT cB) : Tree (LeftF E_kf) := bif decide (0 ≤ sizeW b ∧ sizeW b ≤ sizeW b ∧ sizeW b ≤ 65536 ∧ 16 * sizeW b ≤ 281474976710656) then
  bif isE (.exit 0) (y_kn (sizeW b)) then .leaf (res_kf (valE (.exit 0) (y_kn (sizeW b))).2.1.1) else .fail else .fail
theorem e_kn (g : L_kf.T) : evBody X_kn (evFn X_kn 6) 62 (ofKs L_kf.ks g.1 L_kf.nx) (L_kf.lay.hp g) (L_kf.lay.of g).nx (foutK E_kf) = T_kn g.1.1 := by kernel_rfl
theorem size_eq {b : TCT cB} (hb : OkB b) : sizeW b = ((bN b + 1) * cellsF b * bsN b) * bsN b ∧ 1 ≤ sizeW b ∧ sizeW b ≤ 22743 := by
  obtain ⟨e, h1, h2⟩ := base_eq hb
  have hc := hb.c.2
  have hn := hb.n
  have k1 : (bN b + 1) * cellsF b ≤ 7 * 9 := mul_le2 (by omega) (by omega) (by omega) hc.2
  have k0 : 1 * 1 ≤ (bN b + 1) * cellsF b := mul_le2 (by omega) (by omega) (by omega) hc.1
  have k2 : (bN b + 1) * cellsF b * bsN b ≤ 63 * 19 := mul_le2 (by omega) k1 (by omega) h2
  have k3 : 1 * 1 ≤ (bN b + 1) * cellsF b * bsN b := mul_le2 (by omega) (by omega) (by omega) (by omega)
  have k4 : (bN b + 1) * cellsF b * bsN b * bsN b ≤ 1197 * 19 := mul_le2 (by omega) k2 (by omega) h2
  have k5 : 1 * 1 ≤ (bN b + 1) * cellsF b * bsN b * bsN b := mul_le2 (by omega) (by omega) (by omega) (by omega)
  unfold sizeW
  rw [e]
  rw [W64_id (n := bN b + 1) (by omega) (by omega), W64_id (n := (bN b + 1) * cellsF b) (by omega) (by omega), W64_id (n := (bN b + 1) * cellsF b * bsN b) (by omega) (by omega), W64_id (n := (bN b + 1) * cellsF b * bsN b * bsN b) (by omega) (by omega)]
  exact ⟨rfl, by omega, by omega⟩
theorem T_kn_ok {b : TCT cB} (hb : bOk b = true) {R : LeftF E_kf → Prop} (h : R (res_kf (List.replicate (sizeW b).toNat xC))) : (T_kn b).sat R := by
  obtain ⟨_, h1, h2⟩ := size_eq (okB_of hb)
  unfold T_kn
  rw [decide_eq_true (show 0 ≤ sizeW b ∧ sizeW b ≤ sizeW b ∧ sizeW b ≤ 65536 ∧ 16 * sizeW b ≤ 281474976710656 by omega)]
  have e := it_kn (sizeW b).toNat (by omega)
  have e2 : (((sizeW b).toNat : Nat) : Int) = sizeW b := by omega
  rw [e2] at e
  have e : y_kn (sizeW b) = _ := e
  rw [e]
  exact h
theorem E_kf_nx (b : Bool) : 1000 ≤ (E_kf b).nx := by cases b <;> exact Nat.le_of_ble_eq_true rfl
theorem sp_known_ok : SpecOk Try.prog 62 sp_known := fspec_ok (X := X_kn) X_kn_ok 6 E_kf_nx fun g R _ hf => by
  rw [e_kn]
  cases hb : bOk g.1.1 with
  | false => exact (hf.2 hb).elim
  | true => exact T_kn_ok hb fun _ => hf.1 hb
end V
end Go.Proofs.Ytdblbofagfhlbaa
