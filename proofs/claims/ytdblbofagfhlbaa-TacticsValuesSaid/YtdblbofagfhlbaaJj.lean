/- Acts: its contract. -/
import Derived.Test.YtdblbofagfhlbaaJi
namespace Go.Proofs.Ytdblbofagfhlbaa
open Go.RowKit
namespace V
theorem is_appSeq : FnIs Try.prog (94, Try.f94) := ⟨Try.func94, by kernel_rfl, by kernel_rfl⟩
theorem is_collect : FnIs Try.prog (81, Try.f81) := ⟨Try.func81, by kernel_rfl, by kernel_rfl⟩
theorem is_tActs : FnIs Try.prog (39, Try.f39) := ⟨Try.func39, by kernel_rfl, by kernel_rfl⟩
abbrev kS4 : List SK := [.d cI, .d cI, .d (.sl cI), .d cI, .d cI, .d cI, .d cI, .d cI, .d cI, .d cI, .d cI, .d cI, .d cI, .d cI, .d cI, .q 4]
noncomputable def X_ac : Ctx := ctx Try.prog plSe [(94, Try.f94)]
theorem X_ac_ok : CtxOk X_ac := ctx_ok mixed puSe (fns_cons is_appSeq fns_nil)
noncomputable def lk_ac : LK := { id := 10, keys := [2], ks := [.p 8 0 0 0], n := 13, fn := 94, params := [7], assign := (rangeAt Try.f94 0).1, body := (rangeAt Try.f94 0).2, df := 9, st := some 0 }
def bs_ac : List BK := [(2, 25, [.d cI]), (4, 0, [.m cP cC]), (5, 124, kS4), (6, 77, [.p 5 0 0 0]), (7, 82, kP), (8, 59, [.o 55 cA])]
noncomputable def L_aci : Lay2 := { keys := [0, 1, 2, 4, 22, 23, 34, 35], ks := [.y 10, .p 7 0 0 0, .p 6 0 0 0, .d cI, .d cI, .d cI, .d cI, .d cI], bs := bs_ac, ls := [lk_ac], n := 53, nx := 9000, marks := [], ds := [9] }
noncomputable def L_aco : Lay2 := { keys := [0, 1, 2, 22, 23], ks := [.y 10, .p 7 0 0 0, .p 6 0 0 0, .d cI, .d cI], bs := bs_ac, ls := [lk_ac], n := 53, nx := 5000, marks := [], ds := [9] }
noncomputable def R_aci : Lay2 := { keys := [0, 1, 2, 22, 23], ks := [.y 10, .p 7 0 0 0, .p 6 0 0 0, .d cI, .d cI], bs := bs_ac, ls := [lk_ac], n := 53, nx := 9000, marks := [], ds := [9] }
noncomputable def R_aco : Lay2 := { keys := [], ks := [], bs := bs_ac, ls := [lk_ac], n := 53, nx := 5000, marks := [], ds := [9] }
noncomputable def E_aci : XE → Lay2 := fun _ => R_aci
noncomputable def E_aco : XE → Lay2 := fun _ => R_aco
structure Cac where
  e : SKTs [SK.d cI]
  m : Memo
  x : SKTs kS
  q : SKTs kP
abbrev Sac : Type := List (TCT cA)
def bsFac (c : Cac) (s : Sac) : BTs bs_ac := (c.e, (c.m, ()), c.x, ((), ()), c.q, (s, ()), ())
def lsac : LTs [lk_ac] := (((((), ()) : SKTs lk_ac.ks), ((() : Unit) : StT lk_ac.st)), ())
def cOfac (t : BTs bs_ac) : Cac := ⟨t.1, t.2.1.1, t.2.2.1, t.2.2.2.2.1⟩
def sOfac (t : BTs bs_ac) : Sac := t.2.2.2.2.2.1.1
def hd_aci (c : Cac) (i n o K k : Int) (s : Sac) : L_aci.T := (((), (), (), i, n, o, K, k, ()), bsFac c s, lsac)
def ex_aci (c : Cac) (n o : Int) (s : Sac) : Left2 E_aci := ⟨.exit 2, (((), (), (), n, o, ()), bsFac c s, lsac)⟩
def hd_aco (c : Cac) (n o : Int) (s : Sac) : L_aco.T := (((), (), (), n, o, ()), bsFac c s, lsac)
def ex_aco (c : Cac) (s : Sac) : Left2 E_aco := ⟨.exit 0, ((), bsFac c s, lsac)⟩
def row_ac {α : Type} (c : Cac) (s : Sac) (a : TCT cA) (K : Sac ⊕ Unit → Tree α) : Tree α := bif appOk s [a] 32 then K (.inl (s ++ [a])) else .fail
/-- what the consumer does with an act -/
def g_ac (c : Cac) (s : Sac) (a : TCT cA) : Option (Sac ⊕ Unit) := bif appOk s [a] 32 then some (.inl (s ++ [a])) else none
theorem row_ac_ok {α : Type} {c : Cac} {s : Sac} {a : TCT cA} {K : Sac ⊕ Unit → Tree α} {Q : α → Prop} {y : Sac ⊕ Unit} (h : g_ac c s a = some y) (hQ : (K y).sat Q) : (row_ac c s a K).sat Q := by
  unfold g_ac at h
  unfold row_ac
  cases ho : appOk s [a] 32 with
  | false => rw [ho] at h; cases h
  | true => rw [ho] at h; cases h; exact hQ
theorem g_ac_in (c : Cac) (s : Sac) (a : TCT cA) (b : Unit) : g_ac c s a ≠ some (.inr b) := by
  unfold g_ac
  cases appOk s [a] 32 <;> exact fun h => nomatch h
def KI_ac (c : Cac) (i n o K k : Int) (y : Sac ⊕ Unit) : Tree (L_aci.T ⊕ Left2 E_aci) := match y with
  | .inl s => .need (selfL [lk_ac]) (.leaf (.inl (hd_aci c i n o K (W64 (k + 1)) s)))
  | .inr _ => .fail
def st_aci (c : Cac) (i n o K k : Int) (s : Sac) : Tree (L_aci.T ⊕ Left2 E_aci) :=
  bif decide (k < K) then bif cellsF (brd c.x) != 0 then bif cellsF (brd c.x) != 0 then row_ac c s (roq (brd c.x) i k) (KI_ac c i n o K k) else .fail else .fail else .need (selfL [lk_ac]) (.leaf (.inr (ex_aci c n o s)))
theorem e_aci (g : L_aci.T) : evC Try.prog (evFn X_ac 7) X_ac.pures 95 X_ac.u (fun _ => none) lb_vi (L_aci.of g) (stepOut2 L_aci E_aci) = st_aci (cOfac g.2.1) g.1.2.2.2.1 g.1.2.2.2.2.1 g.1.2.2.2.2.2.1 g.1.2.2.2.2.2.2.1 g.1.2.2.2.2.2.2.2.1 (sOfac g.2.1) := by kernel_rfl
def all_ac (c : Cac) (l : List (TCT cA)) (s : Sac) : Option (Sac ⊕ Unit) := foldX (g_ac c) l s
def fin_aci' (c : Cac) (i n o K k : Int) (s : Sac) : Tree (Left2 E_aci) := .br (okK (brd c.x) K k && okX (all_ac c (roqs (brd c.x) i K) s)) (.leaf (ex_aci c n o (gX [] (all_ac c (roqs (brd c.x) i K) s)))) .fail
noncomputable def fin_aci (g : L_aci.T) : Tree (Left2 E_aci) := fin_aci' (cOfac g.2.1) g.1.2.2.2.1 g.1.2.2.2.2.1 g.1.2.2.2.2.2.1 g.1.2.2.2.2.2.2.1 g.1.2.2.2.2.2.2.2.1 (sOfac g.2.1)
def res_aci (c : Cac) (n o : Int) (y : Sac ⊕ Unit) : Left2 E_aci := match y with
  | .inl s => ex_aci c n o s
  | .inr b => ex_aci c n o []
theorem fin_aci_ok {R : Left2 E_aci → Prop} {c : Cac} {i n o K k : Int} {s : Sac} (hf : (fin_aci' c i n o K k s).sat R) : okK (brd c.x) K k = true ∧ ∃ y, all_ac c (roqs (brd c.x) i K) s = some y ∧ okR y = true ∧ R (res_aci c n o y) := by
  unfold fin_aci' at hf
  obtain ⟨hf, h0⟩ := hf
  cases hk : okK (brd c.x) K k with
  | false =>
    exfalso
    have h0 := h0 (by rw [hk]; rfl)
    exact h0
  | true =>
    refine ⟨rfl, ?_⟩
    cases hy : all_ac c (roqs (brd c.x) i K) s with
    | none =>
      exfalso
      have h0 := h0 (by rw [hk, hy]; rfl)
      exact h0
    | some y =>
      refine ⟨y, rfl, ?_⟩
      cases y with
      | inl s' =>
        have := hf (by rw [hk, hy]; rfl)
        rw [hy] at this
        exact ⟨rfl, this⟩
      | inr b =>
        exact (h0 (by rw [hk, hy]; rfl)).elim
theorem rnds_aci {step : L_aci.T → Tree (L_aci.T ⊕ Left2 E_aci)} (hs : ∀ c i n o K k s, step (hd_aci c i n o K k s) = st_aci c i n o K k s) (R : Left2 E_aci → Prop) (c : Cac) (i n o K : Int) (s : Sac) (y : Sac ⊕ Unit) (hK : 0 ≤ K ∧ K ≤ 1000) (hc : (cellsF (brd c.x) != 0) = true)
    (hf : all_ac c (roqs (brd c.x) i K) s = some y) (hy : okR y = true) (hr : R (res_aci c n o y)) : ∃ m, Rnds2 L_aci E_aci step R m (hd_aci c i n o K 0 s) := by
  have hlen : (roqs (brd c.x) i K).length = K.toNat := by unfold roqs; rw [List.length_map, List.length_range]
  refine ⟨_, rnds2_foldX (roqs (brd c.x) i K) (fun (k : Nat) s => hd_aci c i n o K (k : Int) s) (g_ac c) (res_aci c n o) ?_ ?_ (roqs (brd c.x) i K).length 0 s y (by omega) (by rw [List.drop_zero]; exact hf) hr⟩
  · intro k s1 y1 hk Q _ hg hQ
    rw [hs]
    have hk' : k < K.toNat := by omega
    rw [roqs_get hk] at hg
    unfold st_aci
    rw [decide_eq_true (show (k : Int) < K by omega), hc, cond_true, cond_true, cond_true]
    refine row_ac_ok hg ?_
    unfold KI_ac
    rw [show W64 ((k : Int) + 1) = ((k + 1 : Nat) : Int) from (W64_id (by omega) (by omega))]
    cases y1 with
    | inl s2 => exact ⟨selfL_ok _, hQ⟩
    | inr b => exact absurd hg (g_ac_in c _ _ b)
  · intro s1 Q hQ
    rw [hs]
    unfold st_aci
    rw [decide_eq_false (show ¬ (((roqs (brd c.x) i K).length : Nat) : Int) < K by omega)]
    exact ⟨selfL_ok _, hQ⟩
theorem l_aci : LoopOk Try.prog 95 lb_vi (loopSum2 L_aci E_aci (fin_aci )) := by
  refine loopOk_of2 (X := X_ac) X_ac_ok 7 95 (fun _ => none) (fun _ _ f h => by simp at h) L_aci E_aci (fun e => by cases e <;> exact Nat.le_refl _) (fin_aci ) (fun g => st_aci (cOfac g.2.1) g.1.2.2.2.1 g.1.2.2.2.2.1 g.1.2.2.2.2.2.1 g.1.2.2.2.2.2.2.1 g.1.2.2.2.2.2.2.2.1 (sOfac g.2.1)) (e_aci ) ?_
  intro g R _ hf
  obtain ⟨hk, y, hy, hr⟩ := fin_aci_ok (c := cOfac g.2.1) (i := g.1.2.2.2.1) (n := g.1.2.2.2.2.1) (o := g.1.2.2.2.2.2.1) (K := g.1.2.2.2.2.2.2.1) (k := g.1.2.2.2.2.2.2.2.1) (s := sOfac g.2.1) hf
  unfold okK at hk
  rw [Bool.and_eq_true_iff] at hk
  obtain ⟨hk, hc⟩ := hk
  obtain ⟨h0, hK1, hK2⟩ := of_decide_eq_true hk
  have key := rnds_aci (step := fun g => st_aci (cOfac g.2.1) g.1.2.2.2.1 g.1.2.2.2.2.1 g.1.2.2.2.2.2.1 g.1.2.2.2.2.2.2.1 g.1.2.2.2.2.2.2.2.1 (sOfac g.2.1)) (fun _ _ _ _ _ _ _ => rfl) R (cOfac g.2.1) g.1.2.2.2.1 g.1.2.2.2.2.1 g.1.2.2.2.2.2.1 g.1.2.2.2.2.2.2.1 (sOfac g.2.1) y ⟨hK1, hK2⟩ hc hy hr.1 hr.2
  rw [← h0] at key
  exact key
/-! the loop over balls -/
noncomputable def Lt_aco : LoopT := fun k => bif Nat.beq k 6 then some (loopSum2 L_aci E_aci (fin_aci )) else none
def row_aco (c : Cac) (n o : Int) (s : Sac) (dead : Bool) : Tree (L_aco.T ⊕ Left2 E_aco) :=
  bif dead then .need (selfL [lk_ac]) (.leaf (.inl (hd_aco c n (W64 (o + 1)) s))) else
    .need (selfL [lk_ac]) (bif okK (brd c.x) (sq (brd c.x)) 0 && okX (all_ac c (roqs (brd c.x) o (sq (brd c.x))) s) then
      .need (selfL [lk_ac]) (.leaf (.inl (hd_aco c n (W64 (o + 1)) (gX [] (all_ac c (roqs (brd c.x) o (sq (brd c.x))) s))))) else .fail)
def st_aco (c : Cac) (n o : Int) (s : Sac) : Tree (L_aco.T ⊕ Left2 E_aco) :=
  bif decide (o < n) then bif decide (o = ↑(0 : Nat)) then row_aco c n o s c.q.2.2.2.2.2.1 else bif decide (o = ↑(0 + 1 : Nat)) then row_aco c n o s c.q.2.2.2.2.2.2.1 else .fail
  else .need (selfL [lk_ac]) (.leaf (.inr (ex_aco c s)))
theorem e_aco (g : L_aco.T) : evC Try.prog (evFn X_ac 7) X_ac.pures 95 X_ac.u (Lt_aco ) lb_vo (L_aco.of g) (stepOut2 L_aco E_aco) = st_aco (cOfac g.2.1) g.1.2.2.2.1 g.1.2.2.2.2.1 (sOfac g.2.1) := by kernel_rfl
def fin_aco' (c : Cac) (n o : Int) (s : Sac) : Tree (Left2 E_aco) := .br (okN (brd c.x) n o && okX (all_ac c (rowsA (brd c.x) c.q n) s)) (.leaf (ex_aco c (gX [] (all_ac c (rowsA (brd c.x) c.q n) s)))) .fail
noncomputable def fin_aco (g : L_aco.T) : Tree (Left2 E_aco) := fin_aco' (cOfac g.2.1) g.1.2.2.2.1 g.1.2.2.2.2.1 (sOfac g.2.1)
def res_aco (c : Cac) (y : Sac ⊕ Unit) : Left2 E_aco := match y with
  | .inl s => ex_aco c s
  | .inr b => ex_aco c []
theorem fin_aco_ok {R : Left2 E_aco → Prop} {c : Cac} {n o : Int} {s : Sac} (hf : (fin_aco' c n o s).sat R) : okN (brd c.x) n o = true ∧ ∃ y, all_ac c (rowsA (brd c.x) c.q n) s = some y ∧ okR y = true ∧ R (res_aco c y) := by
  unfold fin_aco' at hf
  obtain ⟨hf, h0⟩ := hf
  cases hk : okN (brd c.x) n o with
  | false =>
    exfalso
    have h0 := h0 (by rw [hk]; rfl)
    exact h0
  | true =>
    refine ⟨rfl, ?_⟩
    cases hy : all_ac c (rowsA (brd c.x) c.q n) s with
    | none =>
      exfalso
      have h0 := h0 (by rw [hk, hy]; rfl)
      exact h0
    | some y =>
      refine ⟨y, rfl, ?_⟩
      cases y with
      | inl s' =>
        have := hf (by rw [hk, hy]; rfl)
        rw [hy] at this
        exact ⟨rfl, this⟩
      | inr b =>
        exact (h0 (by rw [hk, hy]; rfl)).elim
theorem row_aco_ok {c : Cac} {n : Int} {i : Nat} {s : Sac} {y : Sac ⊕ Unit} {Q : L_aco.T ⊕ Left2 E_aco → Prop} (hi : i ≤ 2) (hK : okK (brd c.x) (sq (brd c.x)) 0 = true) (dead : Bool) (hg : all_ac c (bif dead then [] else roqs (brd c.x) i (sq (brd c.x))) s = some y) (hy : okR y = true) (hQ : nextX y (fun s' => Q (.inl (hd_aco c n ((i + 1 : Nat) : Int) s'))) (fun b => Q (.inr (res_aco c (.inr b))))) :
    (row_aco c n i s dead).sat Q := by
  unfold row_aco
  rw [show W64 ((i : Int) + 1) = ((i + 1 : Nat) : Int) from (W64_id (by omega) (by omega))]
  cases dead with
  | true =>
    cases hg
    exact ⟨selfL_ok _, hQ⟩
  | false =>
    rw [cond_false] at hg
    rw [hK, hg]
    cases y with
    | inl s' => exact ⟨selfL_ok _, selfL_ok _, hQ⟩
    | inr b => cases hy
theorem rnds_aco {step : L_aco.T → Tree (L_aco.T ⊕ Left2 E_aco)} (hs : ∀ c n o s, step (hd_aco c n o s) = st_aco c n o s) (R : Left2 E_aco → Prop) (c : Cac) (n : Int) (s : Sac) (y : Sac ⊕ Unit) (hn : n ≤ 2) (hK : okK (brd c.x) (sq (brd c.x)) 0 = true)
    (hf : all_ac c (rowsA (brd c.x) c.q n) s = some y) (hr : R (res_aco c y)) : ∃ m, Rnds2 L_aco E_aco step R m (hd_aco c n 0 s) := by
  unfold all_ac rowsA at hf
  rw [foldX_flat] at hf
  refine ⟨_, rnds2_foldX (List.range n.toNat) (fun (i : Nat) s => hd_aco c n (i : Int) s) (fun s i => foldX (g_ac c) (rowA (brd c.x) c.q i) s) (res_aco c) ?_ ?_ (List.range n.toNat).length 0 s y (by omega) (by rw [List.drop_zero]; exact hf) hr⟩
  · intro i s1 y1 hi Q _ hg hQ
    rw [List.length_range] at hi
    rw [List.getElem_range] at hg
    rw [hs]
    have hy1 : okR y1 = true := by
      cases y1 with
      | inl _ => rfl
      | inr b => exact absurd hg (foldX_in (fun s a b => g_ac_in c s a b) _ _ b)
    unfold st_aco
    rw [decide_eq_true (show (i : Int) < n by omega), cond_true]
    unfold rowA at hg
    match i, hi, hg, hQ with
    | 0, _, hg, hQ => exact row_aco_ok (i := 0) (by omega) hK _ hg hy1 hQ
    | 1, _, hg, hQ => exact row_aco_ok (i := 1) (by omega) hK _ hg hy1 hQ
    | i + 2, hi, _, _ => omega
  · intro s1 Q hQ
    rw [hs]
    unfold st_aco
    rw [List.length_range, decide_eq_false (show ¬ ((n.toNat : Nat) : Int) < n by omega)]
    exact ⟨selfL_ok _, hQ⟩
theorem l_aco : LoopOk Try.prog 95 lb_vo (loopSum2 L_aco E_aco (fin_aco )) := by
  refine loopOk_of2 (X := X_ac) X_ac_ok 7 95 (Lt_aco ) ?_ L_aco E_aco (fun e => by cases e <;> exact Nat.le_refl _) (fin_aco ) (fun g => st_aco (cOfac g.2.1) g.1.2.2.2.1 g.1.2.2.2.2.1 (sOfac g.2.1)) (e_aco ) ?_
  · intro d hd f hf
    have hl : loopsOf lb_vo = [lb_vi] := by kernel_rfl
    rw [hl, List.mem_singleton] at hd
    subst hd
    have hk : keyOf lb_vi = 6 := by kernel_rfl
    rw [hk] at hf
    have : Lt_aco 6 = some (loopSum2 L_aci E_aci (fin_aci )) := rfl
    rw [this, Option.some.injEq] at hf
    subst hf
    exact l_aci 
  intro g R _ hf
  obtain ⟨hk, y, hy, hr⟩ := fin_aco_ok (c := cOfac g.2.1) (n := g.1.2.2.2.1) (o := g.1.2.2.2.2.1) (s := sOfac g.2.1) hf
  unfold okN at hk
  rw [Bool.and_eq_true_iff] at hk
  obtain ⟨hk, hc⟩ := hk
  obtain ⟨h0, hn⟩ := of_decide_eq_true hk
  have key := rnds_aco (step := fun g => st_aco (cOfac g.2.1) g.1.2.2.2.1 g.1.2.2.2.2.1 (sOfac g.2.1)) (fun _ _ _ _ => rfl) R (cOfac g.2.1) g.1.2.2.2.1 (sOfac g.2.1) y hn hc hy hr.2
  rw [← h0] at key
  exact key

/-! Acts -/
noncomputable def loops_Ac : List ((Nat × Nat) × (St → Tree (XE × St))) := [((95, 2), loopSum2 L_aco E_aco fin_aco)]
noncomputable def X_Ac : Ctx := ctxS Try.prog plEx [(39, Try.f39), (48, Try.f48), (85, Try.f85), (47, Try.f47), (81, Try.f81), (94, Try.f94), (82, Try.f82), (95, Try.f95)] loops_Ac spEx
def c_Ac (b : TCT cB) (x : TCT cSc) : Cac := ⟨(0, ()), no0, cellsB b, cellsP (placeF x)⟩
def al_Ac (b : TCT cB) (x : TCT cSc) : Option (List (TCT cA) ⊕ Unit) := all_ac (c_Ac b x) (rowsA b (cellsP (placeF x)) (placeF x).2.2.1) [runA]
abbrev cAs : TC := .sl cA
abbrev TAc := Tree (TCTs [cAs, cI])
def T_Ac (b : TCT cB) (x : TCT cSc) : TAc := bif boardF b != 0 then .leaf ([], boardF b, ()) else
  bif placeOk b x then bif x.2.1 == (b.2.2.1.length : Int) then .leaf ([], 0, ()) else
    .need (selfL [lk_ac]) (bif okN b (x.2.2.1.length : Int) 0 && okX (al_Ac b x) then .leaf (gX [] (al_Ac b x), 0, ()) else .fail)
  else .leaf ([], 3, ())
theorem T_Ac_eq (y : TCTs [cB, cSc]) : evFn X_Ac 8 (.fn 39) (encAs [cB, cSc] y) noHeap 0 (outK Try.prog [cAs, cI]) = T_Ac y.1 y.2.1 := by kernel_rfl
theorem flat_len {α β : Type} {f : β → List α} {M : Nat} : ∀ (l : List β), (∀ x ∈ l, (f x).length ≤ M) → (l.flatMap f).length ≤ l.length * M
  | [], _ => by simp
  | x :: l, h => by
    rw [List.flatMap_cons, List.length_append, List.length_cons, Nat.add_mul, Nat.one_mul]
    have h1 := h x (List.mem_cons_self ..)
    have h2 := flat_len l fun y hy => h y (List.mem_cons_of_mem _ hy)
    omega
theorem rows_len {b : TCT cB} (hb : OkB b) {q : SKTs kP} {n : Int} (hn : n ≤ 2) : (rowsA b q n).length ≤ 200 := by
  obtain ⟨_, h1, h2⟩ := sq_eq hb
  have k := flat_len (f := fun i => rowA b q i) (M := 81) (List.range n.toNat) fun i _ => by
    unfold rowA
    cases deadI q i with
    | true => exact Nat.zero_le _
    | false =>
      show (roqs b i (sq b)).length ≤ 81
      unfold roqs
      rw [List.length_map, List.length_range]
      omega
  rw [List.length_range] at k
  unfold rowsA
  have : n.toNat * 81 ≤ 2 * 81 := Nat.mul_le_mul_right _ (by omega)
  omega
theorem all_ac_eq (c : Cac) : ∀ (l s : List (TCT cA)), s.length + l.length ≤ 100000 → all_ac c l s = some (.inl (s ++ l))
  | [], s, _ => by rw [List.append_nil]; rfl
  | x :: l, s, h => by
    rw [List.length_cons] at h
    have ih := all_ac_eq c l (s ++ [x]) (by rw [List.length_append, List.length_singleton]; omega)
    unfold all_ac at ih ⊢
    have ha : appOk s [x] 32 = true := by
      rw [appOk_eq]
      exact decide_eq_true (by rw [List.length_singleton]; omega)
    simp only [foldX, g_ac, ha, cond_true]
    rw [ih, List.append_assoc]
    rfl
def actsV (b : TCT cB) (x : TCT cSc) : List (TCT cA) := bif bOk b && placeOk b x then actsF b (placeF x) else []
abbrev s_Acts : PureT := spec [cB, cSc] [cAs, cI] (fun _ => true) (fun x => (actsV x.1 x.2.1, sceneE x.1 x.2.1, ()))
theorem T_Ac_ok (b : TCT cB) (x : TCT cSc) : (T_Ac b x).sat (fun y => y = (actsV b x, sceneE b x, ())) := by
  unfold T_Ac actsV sceneE
  rw [board0]
  cases hb : bOk b with
  | false =>
    have e : boardF b = 2 := by unfold boardF; rw [hb]; rfl
    rw [e]
    exact rfl
  | true =>
    have hB := okB_of hb
    rw [Bool.not_true, cond_false]
    cases hp : placeOk b x with
    | false => exact rfl
    | true =>
      have hP := place_okP hp
      rw [cond_true]
      have e1 : (placeF x).2.1 = x.2.1 := rfl
      cases hh : x.2.1 == (b.2.2.1.length : Int) with
      | true =>
        unfold actsF
        rw [e1, hh]
        exact rfl
      | false =>
        unfold actsF
        rw [e1, hh, cond_false]
        refine ⟨selfL_ok _, ?_⟩
        have hN : okN b (x.2.2.1.length : Int) 0 = true := okN_ok hB (n := (x.2.2.1.length : Int)) hP.n.2
        have hl := rows_len hB (q := cellsP (placeF x)) hP.n.2
        have ea : al_Ac b x = some (.inl ([runA] ++ rowsA b (cellsP (placeF x)) (placeF x).2.2.1)) := all_ac_eq (c_Ac b x) _ _ (by rw [List.length_singleton]; change (rowsA b (cellsP (placeF x)) (placeF x).2.2.1).length ≤ 200 at hl; omega)
        rw [hN, ea]
        exact rfl
theorem loops_Ac_ok : ∀ q ∈ X_Ac.fns, ∀ d ∈ loopsOf (bodyOf q.2), ∀ g, assoc2 loops_Ac q.1 (keyOf d) = some g → LoopOk Try.prog q.1 d g := by
  intro q hq d hd g hg
  change q ∈ [(39, Try.f39), (48, Try.f48), (85, Try.f85), (47, Try.f47), (81, Try.f81), (94, Try.f94), (82, Try.f82), (95, Try.f95)] at hq
  simp only [List.mem_cons, List.not_mem_nil, or_false] at hq
  rcases hq with rfl | rfl | rfl | rfl | rfl | rfl | rfl | rfl
  · exact nomatch (show (none : Option (St → Tree (XE × St))) = some g from hg)
  · exact nomatch (show (none : Option (St → Tree (XE × St))) = some g from hg)
  · exact nomatch (show (none : Option (St → Tree (XE × St))) = some g from hg)
  · exact nomatch (show (none : Option (St → Tree (XE × St))) = some g from hg)
  · exact nomatch (show (none : Option (St → Tree (XE × St))) = some g from hg)
  · exact nomatch (show (none : Option (St → Tree (XE × St))) = some g from hg)
  · exact nomatch (show (none : Option (St → Tree (XE × St))) = some g from hg)
  · exact loops_acts l_aco g d hd hg
theorem X_Ac_ok : CtxOk X_Ac := ctxS_ok mixed puEx (fns_cons is_tActs (fns_cons is_open (fns_cons is_must (fns_cons is_catch (fns_cons is_collect (fns_cons is_appSeq (fns_cons is_acts (fns_cons is_acts1 fns_nil)))))))) loops_Ac_ok spEx_ok
theorem q_Acts : PureOk Try.prog 39 s_Acts := q_by X_Ac_ok 8 (fun x => T_Ac x.1 x.2.1) T_Ac_eq fun x _ _ => T_Ac_ok x.1 x.2.1
end V
end Go.Proofs.Ytdblbofagfhlbaa
