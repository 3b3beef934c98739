/- Leave: its contract. -/
import Derived.Test.YtdblbofagfhlbaaJb
namespace Go.Proofs.Ytdblbofagfhlbaa
open Go.RowKit
namespace V
theorem foldl_range_succ {S : Type} (f : S → Nat → S) (s : S) (n : Nat) : (List.range (n + 1)).foldl f s = f ((List.range n).foldl f s) n := by
  rw [List.range_succ, List.foldl_append]; rfl
/-- what is known of the least one so far -/
structure Lst (vs : List (TCT cC)) (k : Nat) (s : Sf) : Prop where
  fo : s.2.1 = true
  lo : 0 ≤ s.1
  hi : s.1 < (k : Int)
  at_ : s.2.2 = nF vs s.1
  all : ∀ i : Nat, i < k → nF vs (i : Int) ≤ s.2.2
  bef : ∀ i : Nat, (i : Int) < s.1 → nF vs (i : Int) < s.2.2
theorem lst_step {vs : List (TCT cC)} : ∀ (k : Nat), Lst vs (k + 1) ((List.range (k + 1)).foldl (fun s (k : Nat) => stepI vs s (k : Int)) (0, false, 0))
  | 0 => ⟨rfl, Int.le_refl _, by show (0 : Int) < 1; omega, rfl, fun i hi => by
      have : i = 0 := by omega
      subst this; exact Int.le_refl _, fun i hi => by have : (i : Int) < 0 := hi; omega⟩
  | k + 1 => by
    have ih := lst_step (vs := vs) k
    rw [foldl_range_succ]
    generalize (List.range (k + 1)).foldl (fun s (k : Nat) => stepI vs s (k : Int)) (0, false, 0) = s at ih ⊢
    obtain ⟨h1, h2, h3, h4, h5, h6⟩ := ih
    unfold stepI
    rw [h1]
    simp only [Bool.not_true, cond_false]
    by_cases hd : nF vs ((k + 1 : Nat) : Int) > s.2.2
    · rw [decide_eq_true hd]
      refine ⟨rfl, by show (0 : Int) ≤ ((k + 1 : Nat) : Int); omega, by show ((k + 1 : Nat) : Int) < ((k + 1 + 1 : Nat) : Int); omega, rfl, fun i hi => ?_, fun i hi => ?_⟩
      · show nF vs i ≤ nF vs ((k + 1 : Nat) : Int)
        by_cases he : i = k + 1
        · rw [he]; exact Int.le_refl _
        · have := h5 i (by omega); omega
      · show nF vs i < nF vs ((k + 1 : Nat) : Int)
        have hi : (i : Int) < ((k + 1 : Nat) : Int) := hi
        have := h5 i (by omega)
        omega
    · rw [decide_eq_false hd]
      refine ⟨h1, h2, by show s.1 < _; omega, h4, fun i hi => ?_, h6⟩
      show nF vs i ≤ s.2.2
      by_cases he : i = k + 1
      · rw [he]; omega
      · exact h5 i (by omega)
theorem lst_all {vs : List (TCT cC)} (h : vs ≠ []) : Lst vs vs.length (allI vs (0, false, 0)) := by
  unfold allI
  cases vs with
  | nil => exact (h rfl).elim
  | cons x l => exact lst_step (vs := x :: l) l.length
def hiAt (vs : List (TCT cC)) (i : Int) : Int := (getA vs i.toNat (dflt cC)).2.1
theorem at_facts {vs : List (TCT cC)} (h : vs ≠ []) (hb : ∀ x ∈ vs, 0 ≤ vHi x ∧ vHi x ≤ 100000000) :
    0 ≤ at_Lv vs ∧ at_Lv vs < (vs.length : Int) ∧ (∀ i : Nat, i < vs.length → hiAt vs (at_Lv vs) ≤ hiAt vs i) ∧ (∀ i : Nat, (i : Int) < at_Lv vs → hiAt vs (at_Lv vs) < hiAt vs i) := by
  obtain ⟨_, h2, h3, h4, h5, h6⟩ := lst_all h
  have e : at_Lv vs = (allI vs (0, false, 0)).1 := rfl
  rw [← e] at h2 h3 h4 h6
  have hn : ∀ i : Nat, i < vs.length → nF vs i = 0 - hiAt vs i := by
    intro i hi
    unfold nF hiAt
    have ht : (i : Int).toNat = i := by omega
    rw [ht, getA_lt hi]
    have := hb _ (List.getElem_mem hi)
    unfold vHi at this
    exact W64_id (by omega) (by omega)
  have hat : nF vs (at_Lv vs) = 0 - hiAt vs (at_Lv vs) := by
    have := hn (at_Lv vs).toNat (by omega)
    rw [show ((at_Lv vs).toNat : Int) = at_Lv vs by omega] at this
    exact this
  refine ⟨h2, h3, fun i hi => ?_, fun i hi => ?_⟩
  · have := h5 i hi
    have := hn i hi
    omega
  · have := h6 i hi
    have := hn i (by omega)
    omega
def valP (b : TCT cB) (x : TCT cSc) : TCT cC := Val b (placeF x)
def Vs (b : TCT cB) (l : List (TCT cSc)) : List (TCT cC) := l.map (valP b)
theorem all_ok {b : TCT cB} (hb : OkB b) : ∀ (l : List (TCT cSc)) (vs : List (TCT cC)) (m : Memo), Right b m → vs.length + l.length ≤ 1000 →
    bif l.all (placeOk b) then ∃ m', all_lv b l (vs, m) = some (.inl (vs ++ Vs b l, m')) else all_lv b l (vs, m) = some (.inr ())
  | [], vs, m, _, _ => ⟨m, by show some (Sum.inl (vs, m)) = _; simp [Vs]⟩
  | x :: l, vs, m, hm, hn => by
    rw [List.length_cons] at hn
    rw [List.all_cons]
    cases hp : placeOk b x with
    | false =>
      show all_lv b (x :: l) (vs, m) = _
      unfold all_lv foldX g_lv
      rw [hp]; rfl
    | true =>
      obtain ⟨m1, e1, r1⟩ := VX_ok hb (place_okP hp) hm
      have ih := all_ok hb l (vs ++ [valP b x]) m1 r1 (by rw [List.length_append, List.length_singleton]; omega)
      have e2 : g_lv b (vs, m) x = some (.inl (vs ++ [valP b x], m1)) := by
        unfold g_lv vOf
        rw [hp, e1]
        have ha : appOk vs [gv (some (Val b (placeF x), m1))] 16 = true := by
          rw [appOk_eq]
          exact decide_eq_true (by rw [List.length_singleton]; omega)
        rw [cond_true]
        show (bif (some (Val b (placeF x), m1)).isSome && appOk vs [gv (some (Val b (placeF x), m1))] 16 then _ else _) = _
        rw [ha]
        rfl
      have e3 : all_lv b (x :: l) (vs, m) = all_lv b l (vs ++ [valP b x], m1) := by
        show foldX (g_lv b) (x :: l) (vs, m) = _
        unfold foldX
        rw [e2]
        rfl
      rw [Bool.true_and, e3]
      cases ha : l.all (placeOk b) with
      | false => rw [ha] at ih; exact ih
      | true =>
        rw [ha] at ih
        obtain ⟨m', e⟩ := ih
        refine ⟨m', ?_⟩
        rw [e]
        simp [Vs]
def leaveE (b : TCT cB) (l : List (TCT cSc)) : Int := bif bOk b then bif (l.length : Int) == 0 then 5 else bif decide ((l.length : Int) > 64) then 6 else bif l.all (placeOk b) then 0 else 3 else 2
def leaveN (b : TCT cB) (l : List (TCT cSc)) : Int := bif leaveE b l == 0 then at_Lv (Vs b l) else 0
def leaveV (b : TCT cB) (l : List (TCT cSc)) : TCT cC := bif leaveE b l == 0 then getA (Vs b l) (at_Lv (Vs b l)).toNat (dflt cC) else zC
abbrev s_Leave : PureT := spec [cB, cScs] [cI, cC, cI] (fun _ => true) (fun x => (leaveN x.1 x.2.1, ((leaveV x.1 x.2.1).1, (leaveV x.1 x.2.1).2.1, ()), leaveE x.1 x.2.1, ()))
theorem T_Lv_ok (b : TCT cB) (l : List (TCT cSc)) : (T_Lv b l).sat (fun y => y = (leaveN b l, ((leaveV b l).1, (leaveV b l).2.1, ()), leaveE b l, ())) := by
  have bad : ∀ e : Int, leaveE b l = e → (e == 0) = false → (bad_Lv e).sat (fun y => y = (leaveN b l, ((leaveV b l).1, (leaveV b l).2.1, ()), leaveE b l, ())) := by
    intro e h h2
    unfold leaveN leaveV
    rw [h, h2]
    exact rfl
  unfold T_Lv
  rw [board0]
  cases hb : bOk b with
  | false =>
    have e : boardF b = 2 := by unfold boardF; rw [hb]; rfl
    rw [e]
    exact bad 2 (by unfold leaveE; rw [hb]; rfl) rfl
  | true =>
    have hB := okB_of hb
    rw [Bool.not_true, cond_false]
    cases h0 : (l.length : Int) == 0 with
    | true => exact bad 5 (by unfold leaveE; rw [hb, h0]; rfl) rfl
    | false =>
      have hne : l ≠ [] := fun e => by rw [e] at h0; cases h0
      rw [cond_false]
      cases h1 : decide ((l.length : Int) > 64) with
      | true => exact bad 6 (by unfold leaveE; rw [hb, h0, h1]; rfl) rfl
      | false =>
        have hn := of_decide_eq_false h1
        rw [cond_false]
        have hh : atHead (l.length : Int) 0 l = true := decide_eq_true ⟨rfl, rfl⟩
        have hall := all_ok hB l [] no0 right_no0 (by simp only [List.length_nil]; omega)
        rw [hh]
        cases ha : l.all (placeOk b) with
        | false =>
          rw [ha] at hall
          rw [hall]
          exact bad 3 (by unfold leaveE; rw [hb, h0, h1, ha]; rfl) rfl
        | true =>
          rw [ha] at hall
          obtain ⟨m', e⟩ := hall
          have hE : leaveE b l = 0 := by unfold leaveE; rw [hb, h0, h1, ha]; rfl
          have ev : vs_Lv b l = Vs b l := by unfold vs_Lv; rw [e]; rfl
          have hv : Vs b l ≠ [] := fun e => hne (by unfold Vs at e; simpa using e)
          have hlen : (Vs b l).length = l.length := by unfold Vs; rw [List.length_map]
          obtain ⟨_, f2, f3, _⟩ := lst_all hv
          have f2 : 0 ≤ at_Lv (Vs b l) := f2
          have f3 : at_Lv (Vs b l) < ((Vs b l).length : Int) := f3
          rw [ev, e]
          refine ⟨selfL_ok _, ?_⟩
          have hk : okI (l.length : Int) 0 (Vs b l) = true := decide_eq_true ⟨rfl, by rw [hlen], by omega⟩
          rw [hk, decide_eq_true (show 0 ≤ at_Lv (Vs b l) ∧ at_Lv (Vs b l) < ((Vs b l).length : Int) from ⟨f2, f3⟩), decide_eq_true (show (at_Lv (Vs b l)).toNat < (Vs b l).length by omega)]
          unfold leaveN leaveV
          rw [hE]
          exact rfl
theorem loops_Lv_ok : ∀ q ∈ X_Lv.fns, ∀ d ∈ loopsOf (bodyOf q.2), ∀ g, assoc2 loops_Lv q.1 (keyOf d) = some g → LoopOk Try.prog q.1 d g := by
  intro q hq d hd g hg
  change q ∈ [(21, Try.f21), (48, Try.f48), (85, Try.f85), (47, Try.f47), (53, Try.f53), (52, Try.f52), (54, Try.f54)] at hq
  simp only [List.mem_cons, List.not_mem_nil, or_false] at hq
  rcases hq with rfl | rfl | rfl | rfl | rfl | rfl | rfl
  · have hl : loopsOf (bodyOf Try.f21) = [lb_lv] := by kernel_rfl
    simp only at hd hg
    rw [hl, List.mem_singleton] at hd
    subst hd
    have hk : keyOf lb_lv = 9 := by kernel_rfl
    rw [hk] at hg
    simp [assoc2, loops_Lv] at hg
    subst hg
    exact l_lv
  · exact nomatch (show (none : Option (St → Tree (XE × St))) = some g from hg)
  · exact nomatch (show (none : Option (St → Tree (XE × St))) = some g from hg)
  · exact nomatch (show (none : Option (St → Tree (XE × St))) = some g from hg)
  · exact nomatch (show (none : Option (St → Tree (XE × St))) = some g from hg)
  · have hl : loopsOf (bodyOf Try.f52) = [lb_f] := by kernel_rfl
    simp only at hd hg
    rw [hl, List.mem_singleton] at hd
    subst hd
    have hk : keyOf lb_f = 1 := by kernel_rfl
    rw [hk] at hg
    have h2 : some (loopSum2 L_f E_f fin_f) = some g := hg
    cases h2
    exact l_f
  · exact nomatch (show (none : Option (St → Tree (XE × St))) = some g from hg)
theorem X_Lv_ok : CtxOk X_Lv := ctxS_ok mixed puEx (fns_cons is_tLeave (fns_cons is_open (fns_cons is_must (fns_cons is_catch (fns_cons is_firstI (fns_cons is_Leave1 (fns_cons is_Leave2 fns_nil))))))) loops_Lv_ok spEx_ok
theorem q_Leave : PureOk Try.prog 21 s_Leave := q_by X_Lv_ok 8 (fun x => T_Lv x.1 x.2.1) T_Lv_eq fun x _ _ => T_Lv_ok x.1 x.2.1
end V
end Go.Proofs.Ytdblbofagfhlbaa
