/- Legal acts: the loops over acts. -/
import Derived.Test.YtialgmhhkbdegaaGreatJf
namespace Go.Proofs.YtialgmhhkbdegaaGreat
open Go.RowKit
namespace V
theorem is_legal : FnIs Tryz.prog (25, Tryz.f25) := ⟨Tryz.func25, by kernel_rfl, by kernel_rfl⟩
def eqAct (x a : TCT cA) : Bool := x.1 == a.1 && (x.2.1 == a.2.1 && (x.2.2.1 == a.2.2.1 && (x.2.2.2.1 == a.2.2.2.1 && true)))
abbrev kS6 : List SK := [.d cI, .d cI, .d (.sl cI), .d cI, .d cI, .d cI, .d cI, .d cI, .d cI, .d cI, .d cI, .d cI, .d cI, .d cI, .d cI, .q 6]
abbrev kSc : List SK := [.d cI, .d cI, .d (.sl cI), .d (.sl .b)]
noncomputable def X_c : Ctx := ctx Tryz.prog plSe [(25, Tryz.f25)]
theorem X_c_ok : CtxOk X_c := ctx_ok mixed puSe (fns_cons is_legal fns_nil)
/-! in Worth -/
noncomputable def lk_wt : LK := { id := 14, keys := [5], ks := [.p 10 0 0 0], n := 15, fn := 25, params := [10], assign := (rangeAt Tryz.f25 0).1, body := (rangeAt Tryz.f25 0).2, df := 13, st := some 0 }
def bs_wt : List BK := [(2, 52, kA), (3, 30, [.d cI, .d cI]), (4, 39, [.d cI]), (6, 0, [.m cP cC]), (7, 82, kS6), (8, 66, kP), (10, 52, kA), (11, 60, [.p 7 0 0 0]), (12, 66, kP)]
noncomputable def lkq_wt : LK := { id := 14, keys := [], ks := [], n := 15, fn := 25, params := [10], assign := (rangeAt Tryz.f25 0).1, body := (rangeAt Tryz.f25 0).2, df := 13, st := some 1 }
def bsq_wt : List BK := [(2, 52, kA), (3, 30, [.d cI, .d cI]), (4, 39, [.d cI]), (6, 0, [.m cP cC]), (7, 82, kS6), (8, 66, kP)]
noncomputable def L_wti : Lay2 := { keys := [0, 1, 2, 4, 22, 23, 34, 35], ks := [.y 14, .p 12 0 0 0, .p 11 0 0 0, .d cI, .d cI, .d cI, .d cI, .d cI], bs := bs_wt, ls := [lk_wt], n := 53, nx := 9000, marks := [], ds := [13] }
noncomputable def L_wto : Lay2 := { keys := [0, 1, 2, 22, 23], ks := [.y 14, .p 12 0 0 0, .p 11 0 0 0, .d cI, .d cI], bs := bs_wt, ls := [lk_wt], n := 53, nx := 5000, marks := [], ds := [13] }
noncomputable def R_wti : Lay2 := { keys := [0, 1, 2, 22, 23], ks := [.y 14, .p 12 0 0 0, .p 11 0 0 0, .d cI, .d cI], bs := bs_wt, ls := [lk_wt], n := 53, nx := 9000, marks := [], ds := [13] }
noncomputable def R_wto : Lay2 := { keys := [], ks := [], bs := bs_wt, ls := [lk_wt], n := 53, nx := 5000, marks := [], ds := [13] }
noncomputable def Q_wti : Lay2 := { keys := [], ks := [], bs := bsq_wt, ls := [lkq_wt], n := 53, nx := 9000, marks := [], ds := [13] }
noncomputable def E_wti : XE → Lay2
  | .ret => Q_wti
  | _ => R_wti
noncomputable def Q_wto : Lay2 := { keys := [], ks := [], bs := bsq_wt, ls := [lkq_wt], n := 53, nx := 5000, marks := [], ds := [13] }
noncomputable def E_wto : XE → Lay2
  | .ret => Q_wto
  | _ => R_wto
structure Cwt where
  a2 : SKTs kA
  v3 : SKTs [SK.d cI, SK.d cI]
  e4 : SKTs [SK.d cI]
  m : Memo
  x : SKTs kS
  p8 : SKTs kP
  a : SKTs kA
  q : SKTs kP
abbrev Swt : Type := Unit
def bsFwt (c : Cwt) (s : Swt) : BTs bs_wt := (c.a2, c.v3, c.e4, (c.m, ()), c.x, c.p8, c.a, ((), ()), c.q, ())
def lswt : LTs [lk_wt] := (((((), ()) : SKTs lk_wt.ks), ((() : Unit) : StT lk_wt.st)), ())
def cOfwt (t : BTs bs_wt) : Cwt := ⟨t.1, t.2.1, t.2.2.1, t.2.2.2.1.1, t.2.2.2.2.1, t.2.2.2.2.2.1, t.2.2.2.2.2.2.1, t.2.2.2.2.2.2.2.2.1⟩
def sOfwt (t : BTs bs_wt) : Swt := ()
def hd_wti (c : Cwt) (i n o K k : Int) (s : Swt) : L_wti.T := (((), (), (), i, n, o, K, k, ()), bsFwt c s, lswt)
def ex_wti (c : Cwt) (n o : Int) (s : Swt) : Left2 E_wti := ⟨.exit 2, (((), (), (), n, o, ()), bsFwt c s, lswt)⟩
def hd_wto (c : Cwt) (n o : Int) (s : Swt) : L_wto.T := (((), (), (), n, o, ()), bsFwt c s, lswt)
def ex_wto (c : Cwt) (s : Swt) : Left2 E_wto := ⟨.exit 0, ((), bsFwt c s, lswt)⟩
def lsqwt : LTs [lkq_wt] := (((() : SKTs lkq_wt.ks), ((() : Unit) : StT lkq_wt.st)), ())
def rt_wti (c : Cwt) (s : Unit) : Left2 E_wti := ⟨.ret, ((), (c.a2, c.v3, c.e4, (c.m, ()), c.x, c.p8, ()), lsqwt)⟩
def rt_wto (c : Cwt) (s : Unit) : Left2 E_wto := ⟨.ret, ((), (c.a2, c.v3, c.e4, (c.m, ()), c.x, c.p8, ()), lsqwt)⟩
def row_wt {α : Type} (c : Cwt) (s : Swt) (a : TCT cA) (K : Swt ⊕ Unit → Tree α) : Tree α := bif eqAct a c.a then K (.inr ()) else K (.inl s)
/-- what the consumer does with an act -/
def g_wt (c : Cwt) (s : Swt) (a : TCT cA) : Option (Swt ⊕ Unit) := bif eqAct a c.a then some (.inr ()) else some (.inl s)
theorem row_wt_ok {α : Type} {c : Cwt} {s : Swt} {a : TCT cA} {K : Swt ⊕ Unit → Tree α} {Q : α → Prop} {y : Swt ⊕ Unit} (h : g_wt c s a = some y) (hQ : (K y).sat Q) : (row_wt c s a K).sat Q := by
  unfold g_wt at h
  unfold row_wt
  cases he : eqAct a c.a with
  | true => rw [he] at h; cases h; exact hQ
  | false => rw [he] at h; cases h; exact hQ
def KI_wt (c : Cwt) (i n o K k : Int) (y : Swt ⊕ Unit) : Tree (L_wti.T ⊕ Left2 E_wti) := match y with
  | .inl s => .need (selfL [lk_wt]) (.leaf (.inl (hd_wti c i n o K (W64 (k + 1)) s)))
  | .inr b => .need (selfL [lkq_wt]) (.leaf (.inr (rt_wti c b)))
def st_wti (c : Cwt) (i n o K k : Int) (s : Swt) : Tree (L_wti.T ⊕ Left2 E_wti) :=
  bif decide (k < K) then bif cellsF (brd c.x) != 0 then bif cellsF (brd c.x) != 0 then row_wt c s (roq (brd c.x) i k) (KI_wt c i n o K k) else .fail else .fail else .need (selfL [lk_wt]) (.leaf (.inr (ex_wti c n o s)))
theorem e_wti (g : L_wti.T) : evC Tryz.prog (evFn X_c 7) X_c.pures 45 X_c.u (fun _ => none) lb_vi (L_wti.of g) (stepOut2 L_wti E_wti) = st_wti (cOfwt g.2.1) g.1.2.2.2.1 g.1.2.2.2.2.1 g.1.2.2.2.2.2.1 g.1.2.2.2.2.2.2.1 g.1.2.2.2.2.2.2.2.1 (sOfwt g.2.1) := by kernel_rfl
def all_wt (c : Cwt) (l : List (TCT cA)) (s : Swt) : Option (Swt ⊕ Unit) := foldX (g_wt c) l s
def fin_wti' (c : Cwt) (i n o K k : Int) (s : Swt) : Tree (Left2 E_wti) := .br (okK (brd c.x) K k && okX (all_wt c (roqs (brd c.x) i K) s)) (.leaf (ex_wti c n o (gX () (all_wt c (roqs (brd c.x) i K) s)))) (.br (okK (brd c.x) K k && isR (all_wt c (roqs (brd c.x) i K) s)) (.leaf (rt_wti c (gR (all_wt c (roqs (brd c.x) i K) s)))) .fail)
noncomputable def fin_wti (g : L_wti.T) : Tree (Left2 E_wti) := fin_wti' (cOfwt g.2.1) g.1.2.2.2.1 g.1.2.2.2.2.1 g.1.2.2.2.2.2.1 g.1.2.2.2.2.2.2.1 g.1.2.2.2.2.2.2.2.1 (sOfwt g.2.1)
def res_wti (c : Cwt) (n o : Int) (y : Swt ⊕ Unit) : Left2 E_wti := match y with
  | .inl s => ex_wti c n o s
  | .inr b => rt_wti c b
theorem fin_wti_ok {R : Left2 E_wti → Prop} {c : Cwt} {i n o K k : Int} {s : Swt} (hf : (fin_wti' c i n o K k s).sat R) : okK (brd c.x) K k = true ∧ ∃ y, all_wt c (roqs (brd c.x) i K) s = some y ∧ R (res_wti c n o y) := by
  unfold fin_wti' at hf
  obtain ⟨hf, h0⟩ := hf
  cases hk : okK (brd c.x) K k with
  | false =>
    exfalso
    have h0 := h0 (by rw [hk]; rfl)
    exact h0.2 (by rw [hk]; rfl)
  | true =>
    refine ⟨rfl, ?_⟩
    cases hy : all_wt c (roqs (brd c.x) i K) s with
    | none =>
      exfalso
      have h0 := h0 (by rw [hk, hy]; rfl)
      exact h0.2 (by rw [hk, hy]; rfl)
    | some y =>
      refine ⟨y, rfl, ?_⟩
      cases y with
      | inl s' =>
        have := hf (by rw [hk, hy]; rfl)
        rw [hy] at this
        exact this
      | inr b =>
        have := (h0 (by rw [hk, hy]; rfl)).1 (by rw [hk, hy]; rfl)
        rw [hy] at this
        exact this
theorem rnds_wti {step : L_wti.T → Tree (L_wti.T ⊕ Left2 E_wti)} (hs : ∀ c i n o K k s, step (hd_wti c i n o K k s) = st_wti c i n o K k s) (R : Left2 E_wti → Prop) (c : Cwt) (i n o K : Int) (s : Swt) (y : Swt ⊕ Unit) (hK : 0 ≤ K ∧ K ≤ 1000) (hc : (cellsF (brd c.x) != 0) = true)
    (hf : all_wt c (roqs (brd c.x) i K) s = some y) (hr : R (res_wti c n o y)) : ∃ m, Rnds2 L_wti E_wti step R m (hd_wti c i n o K 0 s) := by
  have hlen : (roqs (brd c.x) i K).length = K.toNat := by unfold roqs; rw [List.length_map, List.length_range]
  refine ⟨_, rnds2_foldX (roqs (brd c.x) i K) (fun (k : Nat) s => hd_wti c i n o K (k : Int) s) (g_wt c) (res_wti c n o) ?_ ?_ (roqs (brd c.x) i K).length 0 s y (by omega) (by rw [List.drop_zero]; exact hf) hr⟩
  · intro k s1 y1 hk Q _ hg hQ
    rw [hs]
    have hk' : k < K.toNat := by omega
    rw [roqs_get hk] at hg
    unfold st_wti
    rw [decide_eq_true (show (k : Int) < K by omega), hc, cond_true, cond_true, cond_true]
    refine row_wt_ok hg ?_
    unfold KI_wt
    rw [show W64 ((k : Int) + 1) = ((k + 1 : Nat) : Int) from (W64_id (by omega) (by omega))]
    cases y1 with
    | inl s2 => exact ⟨selfL_ok _, hQ⟩
    | inr b => exact ⟨selfL_ok _, hQ⟩
  · intro s1 Q hQ
    rw [hs]
    unfold st_wti
    rw [decide_eq_false (show ¬ (((roqs (brd c.x) i K).length : Nat) : Int) < K by omega)]
    exact ⟨selfL_ok _, hQ⟩
theorem l_wti : LoopOk Tryz.prog 45 lb_vi (loopSum2 L_wti E_wti (fin_wti )) := by
  refine loopOk_of2 (X := X_c) X_c_ok 7 45 (fun _ => none) (fun _ _ f h => by simp at h) L_wti E_wti (fun e => by cases e <;> exact Nat.le_refl _) (fin_wti ) (fun g => st_wti (cOfwt g.2.1) g.1.2.2.2.1 g.1.2.2.2.2.1 g.1.2.2.2.2.2.1 g.1.2.2.2.2.2.2.1 g.1.2.2.2.2.2.2.2.1 (sOfwt g.2.1)) (e_wti ) ?_
  intro g R _ hf
  obtain ⟨hk, y, hy, hr⟩ := fin_wti_ok (c := cOfwt g.2.1) (i := g.1.2.2.2.1) (n := g.1.2.2.2.2.1) (o := g.1.2.2.2.2.2.1) (K := g.1.2.2.2.2.2.2.1) (k := g.1.2.2.2.2.2.2.2.1) (s := sOfwt g.2.1) hf
  unfold okK at hk
  rw [Bool.and_eq_true_iff] at hk
  obtain ⟨hk, hc⟩ := hk
  obtain ⟨h0, hK1, hK2⟩ := of_decide_eq_true hk
  have key := rnds_wti (step := fun g => st_wti (cOfwt g.2.1) g.1.2.2.2.1 g.1.2.2.2.2.1 g.1.2.2.2.2.2.1 g.1.2.2.2.2.2.2.1 g.1.2.2.2.2.2.2.2.1 (sOfwt g.2.1)) (fun _ _ _ _ _ _ _ => rfl) R (cOfwt g.2.1) g.1.2.2.2.1 g.1.2.2.2.2.1 g.1.2.2.2.2.2.1 g.1.2.2.2.2.2.2.1 (sOfwt g.2.1) y ⟨hK1, hK2⟩ hc hy hr
  rw [← h0] at key
  exact key
/-! the loop over balls -/
noncomputable def Lt_wto : LoopT := fun k => bif Nat.beq k 6 then some (loopSum2 L_wti E_wti (fin_wti )) else none
def row_wto (c : Cwt) (n o : Int) (s : Swt) (dead : Bool) : Tree (L_wto.T ⊕ Left2 E_wto) :=
  bif dead then .need (selfL [lk_wt]) (.leaf (.inl (hd_wto c n (W64 (o + 1)) s))) else
    .need (selfL [lk_wt]) (bif okK (brd c.x) (sq (brd c.x)) 0 && okX (all_wt c (roqs (brd c.x) o (sq (brd c.x))) s) then
      .need (selfL [lk_wt]) (.leaf (.inl (hd_wto c n (W64 (o + 1)) (gX () (all_wt c (roqs (brd c.x) o (sq (brd c.x))) s))))) else bif okK (brd c.x) (sq (brd c.x)) 0 && isR (all_wt c (roqs (brd c.x) o (sq (brd c.x))) s) then .need (selfL [lkq_wt]) (.leaf (.inr (rt_wto c (gR (all_wt c (roqs (brd c.x) o (sq (brd c.x))) s))))) else .fail)
def st_wto (c : Cwt) (n o : Int) (s : Swt) : Tree (L_wto.T ⊕ Left2 E_wto) :=
  bif decide (o < n) then bif decide (o = ↑(0 : Nat)) then row_wto c n o s c.q.2.2.2.2.2.1 else bif decide (o = ↑(0 + 1 : Nat)) then row_wto c n o s c.q.2.2.2.2.2.2.1 else .fail
  else .need (selfL [lk_wt]) (.leaf (.inr (ex_wto c s)))
theorem e_wto (g : L_wto.T) : evC Tryz.prog (evFn X_c 7) X_c.pures 45 X_c.u (Lt_wto ) lb_vo (L_wto.of g) (stepOut2 L_wto E_wto) = st_wto (cOfwt g.2.1) g.1.2.2.2.1 g.1.2.2.2.2.1 (sOfwt g.2.1) := by kernel_rfl
def fin_wto' (c : Cwt) (n o : Int) (s : Swt) : Tree (Left2 E_wto) := .br (okN (brd c.x) n o && okX (all_wt c (rowsA (brd c.x) c.q n) s)) (.leaf (ex_wto c (gX () (all_wt c (rowsA (brd c.x) c.q n) s)))) (.br (okN (brd c.x) n o && isR (all_wt c (rowsA (brd c.x) c.q n) s)) (.leaf (rt_wto c (gR (all_wt c (rowsA (brd c.x) c.q n) s)))) .fail)
noncomputable def fin_wto (g : L_wto.T) : Tree (Left2 E_wto) := fin_wto' (cOfwt g.2.1) g.1.2.2.2.1 g.1.2.2.2.2.1 (sOfwt g.2.1)
def res_wto (c : Cwt) (y : Swt ⊕ Unit) : Left2 E_wto := match y with
  | .inl s => ex_wto c s
  | .inr b => rt_wto c b
theorem fin_wto_ok {R : Left2 E_wto → Prop} {c : Cwt} {n o : Int} {s : Swt} (hf : (fin_wto' c n o s).sat R) : okN (brd c.x) n o = true ∧ ∃ y, all_wt c (rowsA (brd c.x) c.q n) s = some y ∧ R (res_wto c y) := by
  unfold fin_wto' at hf
  obtain ⟨hf, h0⟩ := hf
  cases hk : okN (brd c.x) n o with
  | false =>
    exfalso
    have h0 := h0 (by rw [hk]; rfl)
    exact h0.2 (by rw [hk]; rfl)
  | true =>
    refine ⟨rfl, ?_⟩
    cases hy : all_wt c (rowsA (brd c.x) c.q n) s with
    | none =>
      exfalso
      have h0 := h0 (by rw [hk, hy]; rfl)
      exact h0.2 (by rw [hk, hy]; rfl)
    | some y =>
      refine ⟨y, rfl, ?_⟩
      cases y with
      | inl s' =>
        have := hf (by rw [hk, hy]; rfl)
        rw [hy] at this
        exact this
      | inr b =>
        have := (h0 (by rw [hk, hy]; rfl)).1 (by rw [hk, hy]; rfl)
        rw [hy] at this
        exact this
theorem row_wto_ok {c : Cwt} {n : Int} {i : Nat} {s : Swt} {y : Swt ⊕ Unit} {Q : L_wto.T ⊕ Left2 E_wto → Prop} (hi : i ≤ 2) (hK : okK (brd c.x) (sq (brd c.x)) 0 = true) (dead : Bool) (hg : all_wt c (bif dead then [] else roqs (brd c.x) i (sq (brd c.x))) s = some y) (hQ : nextX y (fun s' => Q (.inl (hd_wto c n ((i + 1 : Nat) : Int) s'))) (fun b => Q (.inr (res_wto c (.inr b))))) :
    (row_wto c n i s dead).sat Q := by
  unfold row_wto
  rw [show W64 ((i : Int) + 1) = ((i + 1 : Nat) : Int) from (W64_id (by omega) (by omega))]
  cases dead with
  | true =>
    cases hg
    exact ⟨selfL_ok _, hQ⟩
  | false =>
    rw [cond_false] at hg
    rw [hK, hg]
    cases y with
    | inl s' => exact ⟨selfL_ok _, selfL_ok _, hQ⟩
    | inr b => exact ⟨selfL_ok _, selfL_ok _, hQ⟩
theorem rnds_wto {step : L_wto.T → Tree (L_wto.T ⊕ Left2 E_wto)} (hs : ∀ c n o s, step (hd_wto c n o s) = st_wto c n o s) (R : Left2 E_wto → Prop) (c : Cwt) (n : Int) (s : Swt) (y : Swt ⊕ Unit) (hn : n ≤ 2) (hK : okK (brd c.x) (sq (brd c.x)) 0 = true)
    (hf : all_wt c (rowsA (brd c.x) c.q n) s = some y) (hr : R (res_wto c y)) : ∃ m, Rnds2 L_wto E_wto step R m (hd_wto c n 0 s) := by
  unfold all_wt rowsA at hf
  rw [foldX_flat] at hf
  refine ⟨_, rnds2_foldX (List.range n.toNat) (fun (i : Nat) s => hd_wto c n (i : Int) s) (fun s i => foldX (g_wt c) (rowA (brd c.x) c.q i) s) (res_wto c) ?_ ?_ (List.range n.toNat).length 0 s y (by omega) (by rw [List.drop_zero]; exact hf) hr⟩
  · intro i s1 y1 hi Q _ hg hQ
    rw [List.length_range] at hi
    rw [List.getElem_range] at hg
    rw [hs]
    unfold st_wto
    rw [decide_eq_true (show (i : Int) < n by omega), cond_true]
    unfold rowA at hg
    match i, hi, hg, hQ with
    | 0, _, hg, hQ => exact row_wto_ok (i := 0) (by omega) hK _ hg hQ
    | 1, _, hg, hQ => exact row_wto_ok (i := 1) (by omega) hK _ hg hQ
    | i + 2, hi, _, _ => omega
  · intro s1 Q hQ
    rw [hs]
    unfold st_wto
    rw [List.length_range, decide_eq_false (show ¬ ((n.toNat : Nat) : Int) < n by omega)]
    exact ⟨selfL_ok _, hQ⟩
theorem l_wto : LoopOk Tryz.prog 45 lb_vo (loopSum2 L_wto E_wto (fin_wto )) := by
  refine loopOk_of2 (X := X_c) X_c_ok 7 45 (Lt_wto ) ?_ L_wto E_wto (fun e => by cases e <;> exact Nat.le_refl _) (fin_wto ) (fun g => st_wto (cOfwt g.2.1) g.1.2.2.2.1 g.1.2.2.2.2.1 (sOfwt g.2.1)) (e_wto ) ?_
  · intro d hd f hf
    have hl : loopsOf lb_vo = [lb_vi] := by kernel_rfl
    rw [hl, List.mem_singleton] at hd
    subst hd
    have hk : keyOf lb_vi = 6 := by kernel_rfl
    rw [hk] at hf
    have : Lt_wto 6 = some (loopSum2 L_wti E_wti (fin_wti )) := rfl
    rw [this, Option.some.injEq] at hf
    subst hf
    exact l_wti 
  intro g R _ hf
  obtain ⟨hk, y, hy, hr⟩ := fin_wto_ok (c := cOfwt g.2.1) (n := g.1.2.2.2.1) (o := g.1.2.2.2.2.1) (s := sOfwt g.2.1) hf
  unfold okN at hk
  rw [Bool.and_eq_true_iff] at hk
  obtain ⟨hk, hc⟩ := hk
  obtain ⟨h0, hn⟩ := of_decide_eq_true hk
  have key := rnds_wto (step := fun g => st_wto (cOfwt g.2.1) g.1.2.2.2.1 g.1.2.2.2.2.1 (sOfwt g.2.1)) (fun _ _ _ _ => rfl) R (cOfwt g.2.1) g.1.2.2.2.1 (sOfwt g.2.1) y hn hc hy hr
  rw [← h0] at key
  exact key
/-! in After -/
noncomputable def lk_af : LK := { id := 14, keys := [5], ks := [.p 10 0 0 0], n := 15, fn := 25, params := [10], assign := (rangeAt Tryz.f25 0).1, body := (rangeAt Tryz.f25 0).2, df := 13, st := some 0 }
def bs_af : List BK := [(2, 52, kA), (3, 36, kSc), (4, 39, [.d cI]), (6, 0, [.m cP cC]), (7, 82, kS6), (8, 66, kP), (10, 52, kA), (11, 60, [.p 7 0 0 0]), (12, 66, kP)]
noncomputable def lkq_af : LK := { id := 14, keys := [], ks := [], n := 15, fn := 25, params := [10], assign := (rangeAt Tryz.f25 0).1, body := (rangeAt Tryz.f25 0).2, df := 13, st := some 1 }
def bsq_af : List BK := [(2, 52, kA), (3, 36, kSc), (4, 39, [.d cI]), (6, 0, [.m cP cC]), (7, 82, kS6), (8, 66, kP)]
noncomputable def L_afi : Lay2 := { keys := [0, 1, 2, 4, 22, 23, 34, 35], ks := [.y 14, .p 12 0 0 0, .p 11 0 0 0, .d cI, .d cI, .d cI, .d cI, .d cI], bs := bs_af, ls := [lk_af], n := 53, nx := 9000, marks := [], ds := [13] }
noncomputable def L_afo : Lay2 := { keys := [0, 1, 2, 22, 23], ks := [.y 14, .p 12 0 0 0, .p 11 0 0 0, .d cI, .d cI], bs := bs_af, ls := [lk_af], n := 53, nx := 5000, marks := [], ds := [13] }
noncomputable def R_afi : Lay2 := { keys := [0, 1, 2, 22, 23], ks := [.y 14, .p 12 0 0 0, .p 11 0 0 0, .d cI, .d cI], bs := bs_af, ls := [lk_af], n := 53, nx := 9000, marks := [], ds := [13] }
noncomputable def R_afo : Lay2 := { keys := [], ks := [], bs := bs_af, ls := [lk_af], n := 53, nx := 5000, marks := [], ds := [13] }
noncomputable def Q_afi : Lay2 := { keys := [], ks := [], bs := bsq_af, ls := [lkq_af], n := 53, nx := 9000, marks := [], ds := [13] }
noncomputable def E_afi : XE → Lay2
  | .ret => Q_afi
  | _ => R_afi
noncomputable def Q_afo : Lay2 := { keys := [], ks := [], bs := bsq_af, ls := [lkq_af], n := 53, nx := 5000, marks := [], ds := [13] }
noncomputable def E_afo : XE → Lay2
  | .ret => Q_afo
  | _ => R_afo
structure Caf where
  a2 : SKTs kA
  v3 : SKTs kSc
  e4 : SKTs [SK.d cI]
  m : Memo
  x : SKTs kS
  p8 : SKTs kP
  a : SKTs kA
  q : SKTs kP
abbrev Saf : Type := Unit
def bsFaf (c : Caf) (s : Saf) : BTs bs_af := (c.a2, c.v3, c.e4, (c.m, ()), c.x, c.p8, c.a, ((), ()), c.q, ())
def lsaf : LTs [lk_af] := (((((), ()) : SKTs lk_af.ks), ((() : Unit) : StT lk_af.st)), ())
def cOfaf (t : BTs bs_af) : Caf := ⟨t.1, t.2.1, t.2.2.1, t.2.2.2.1.1, t.2.2.2.2.1, t.2.2.2.2.2.1, t.2.2.2.2.2.2.1, t.2.2.2.2.2.2.2.2.1⟩
def sOfaf (t : BTs bs_af) : Saf := ()
def hd_afi (c : Caf) (i n o K k : Int) (s : Saf) : L_afi.T := (((), (), (), i, n, o, K, k, ()), bsFaf c s, lsaf)
def ex_afi (c : Caf) (n o : Int) (s : Saf) : Left2 E_afi := ⟨.exit 2, (((), (), (), n, o, ()), bsFaf c s, lsaf)⟩
def hd_afo (c : Caf) (n o : Int) (s : Saf) : L_afo.T := (((), (), (), n, o, ()), bsFaf c s, lsaf)
def ex_afo (c : Caf) (s : Saf) : Left2 E_afo := ⟨.exit 0, ((), bsFaf c s, lsaf)⟩
def lsqaf : LTs [lkq_af] := (((() : SKTs lkq_af.ks), ((() : Unit) : StT lkq_af.st)), ())
def rt_afi (c : Caf) (s : Unit) : Left2 E_afi := ⟨.ret, ((), (c.a2, c.v3, c.e4, (c.m, ()), c.x, c.p8, ()), lsqaf)⟩
def rt_afo (c : Caf) (s : Unit) : Left2 E_afo := ⟨.ret, ((), (c.a2, c.v3, c.e4, (c.m, ()), c.x, c.p8, ()), lsqaf)⟩
def row_af {α : Type} (c : Caf) (s : Saf) (a : TCT cA) (K : Saf ⊕ Unit → Tree α) : Tree α := bif eqAct a c.a then K (.inr ()) else K (.inl s)
/-- what the consumer does with an act -/
def g_af (c : Caf) (s : Saf) (a : TCT cA) : Option (Saf ⊕ Unit) := bif eqAct a c.a then some (.inr ()) else some (.inl s)
theorem row_af_ok {α : Type} {c : Caf} {s : Saf} {a : TCT cA} {K : Saf ⊕ Unit → Tree α} {Q : α → Prop} {y : Saf ⊕ Unit} (h : g_af c s a = some y) (hQ : (K y).sat Q) : (row_af c s a K).sat Q := by
  unfold g_af at h
  unfold row_af
  cases he : eqAct a c.a with
  | true => rw [he] at h; cases h; exact hQ
  | false => rw [he] at h; cases h; exact hQ
def KI_af (c : Caf) (i n o K k : Int) (y : Saf ⊕ Unit) : Tree (L_afi.T ⊕ Left2 E_afi) := match y with
  | .inl s => .need (selfL [lk_af]) (.leaf (.inl (hd_afi c i n o K (W64 (k + 1)) s)))
  | .inr b => .need (selfL [lkq_af]) (.leaf (.inr (rt_afi c b)))
def st_afi (c : Caf) (i n o K k : Int) (s : Saf) : Tree (L_afi.T ⊕ Left2 E_afi) :=
  bif decide (k < K) then bif cellsF (brd c.x) != 0 then bif cellsF (brd c.x) != 0 then row_af c s (roq (brd c.x) i k) (KI_af c i n o K k) else .fail else .fail else .need (selfL [lk_af]) (.leaf (.inr (ex_afi c n o s)))
theorem e_afi (g : L_afi.T) : evC Tryz.prog (evFn X_c 7) X_c.pures 45 X_c.u (fun _ => none) lb_vi (L_afi.of g) (stepOut2 L_afi E_afi) = st_afi (cOfaf g.2.1) g.1.2.2.2.1 g.1.2.2.2.2.1 g.1.2.2.2.2.2.1 g.1.2.2.2.2.2.2.1 g.1.2.2.2.2.2.2.2.1 (sOfaf g.2.1) := by kernel_rfl
def all_af (c : Caf) (l : List (TCT cA)) (s : Saf) : Option (Saf ⊕ Unit) := foldX (g_af c) l s
def fin_afi' (c : Caf) (i n o K k : Int) (s : Saf) : Tree (Left2 E_afi) := .br (okK (brd c.x) K k && okX (all_af c (roqs (brd c.x) i K) s)) (.leaf (ex_afi c n o (gX () (all_af c (roqs (brd c.x) i K) s)))) (.br (okK (brd c.x) K k && isR (all_af c (roqs (brd c.x) i K) s)) (.leaf (rt_afi c (gR (all_af c (roqs (brd c.x) i K) s)))) .fail)
noncomputable def fin_afi (g : L_afi.T) : Tree (Left2 E_afi) := fin_afi' (cOfaf g.2.1) g.1.2.2.2.1 g.1.2.2.2.2.1 g.1.2.2.2.2.2.1 g.1.2.2.2.2.2.2.1 g.1.2.2.2.2.2.2.2.1 (sOfaf g.2.1)
def res_afi (c : Caf) (n o : Int) (y : Saf ⊕ Unit) : Left2 E_afi := match y with
  | .inl s => ex_afi c n o s
  | .inr b => rt_afi c b
theorem fin_afi_ok {R : Left2 E_afi → Prop} {c : Caf} {i n o K k : Int} {s : Saf} (hf : (fin_afi' c i n o K k s).sat R) : okK (brd c.x) K k = true ∧ ∃ y, all_af c (roqs (brd c.x) i K) s = some y ∧ R (res_afi c n o y) := by
  unfold fin_afi' at hf
  obtain ⟨hf, h0⟩ := hf
  cases hk : okK (brd c.x) K k with
  | false =>
    exfalso
    have h0 := h0 (by rw [hk]; rfl)
    exact h0.2 (by rw [hk]; rfl)
  | true =>
    refine ⟨rfl, ?_⟩
    cases hy : all_af c (roqs (brd c.x) i K) s with
    | none =>
      exfalso
      have h0 := h0 (by rw [hk, hy]; rfl)
      exact h0.2 (by rw [hk, hy]; rfl)
    | some y =>
      refine ⟨y, rfl, ?_⟩
      cases y with
      | inl s' =>
        have := hf (by rw [hk, hy]; rfl)
        rw [hy] at this
        exact this
      | inr b =>
        have := (h0 (by rw [hk, hy]; rfl)).1 (by rw [hk, hy]; rfl)
        rw [hy] at this
        exact this
theorem rnds_afi {step : L_afi.T → Tree (L_afi.T ⊕ Left2 E_afi)} (hs : ∀ c i n o K k s, step (hd_afi c i n o K k s) = st_afi c i n o K k s) (R : Left2 E_afi → Prop) (c : Caf) (i n o K : Int) (s : Saf) (y : Saf ⊕ Unit) (hK : 0 ≤ K ∧ K ≤ 1000) (hc : (cellsF (brd c.x) != 0) = true)
    (hf : all_af c (roqs (brd c.x) i K) s = some y) (hr : R (res_afi c n o y)) : ∃ m, Rnds2 L_afi E_afi step R m (hd_afi c i n o K 0 s) := by
  have hlen : (roqs (brd c.x) i K).length = K.toNat := by unfold roqs; rw [List.length_map, List.length_range]
  refine ⟨_, rnds2_foldX (roqs (brd c.x) i K) (fun (k : Nat) s => hd_afi c i n o K (k : Int) s) (g_af c) (res_afi c n o) ?_ ?_ (roqs (brd c.x) i K).length 0 s y (by omega) (by rw [List.drop_zero]; exact hf) hr⟩
  · intro k s1 y1 hk Q _ hg hQ
    rw [hs]
    have hk' : k < K.toNat := by omega
    rw [roqs_get hk] at hg
    unfold st_afi
    rw [decide_eq_true (show (k : Int) < K by omega), hc, cond_true, cond_true, cond_true]
    refine row_af_ok hg ?_
    unfold KI_af
    rw [show W64 ((k : Int) + 1) = ((k + 1 : Nat) : Int) from (W64_id (by omega) (by omega))]
    cases y1 with
    | inl s2 => exact ⟨selfL_ok _, hQ⟩
    | inr b => exact ⟨selfL_ok _, hQ⟩
  · intro s1 Q hQ
    rw [hs]
    unfold st_afi
    rw [decide_eq_false (show ¬ (((roqs (brd c.x) i K).length : Nat) : Int) < K by omega)]
    exact ⟨selfL_ok _, hQ⟩
theorem l_afi : LoopOk Tryz.prog 45 lb_vi (loopSum2 L_afi E_afi (fin_afi )) := by
  refine loopOk_of2 (X := X_c) X_c_ok 7 45 (fun _ => none) (fun _ _ f h => by simp at h) L_afi E_afi (fun e => by cases e <;> exact Nat.le_refl _) (fin_afi ) (fun g => st_afi (cOfaf g.2.1) g.1.2.2.2.1 g.1.2.2.2.2.1 g.1.2.2.2.2.2.1 g.1.2.2.2.2.2.2.1 g.1.2.2.2.2.2.2.2.1 (sOfaf g.2.1)) (e_afi ) ?_
  intro g R _ hf
  obtain ⟨hk, y, hy, hr⟩ := fin_afi_ok (c := cOfaf g.2.1) (i := g.1.2.2.2.1) (n := g.1.2.2.2.2.1) (o := g.1.2.2.2.2.2.1) (K := g.1.2.2.2.2.2.2.1) (k := g.1.2.2.2.2.2.2.2.1) (s := sOfaf g.2.1) hf
  unfold okK at hk
  rw [Bool.and_eq_true_iff] at hk
  obtain ⟨hk, hc⟩ := hk
  obtain ⟨h0, hK1, hK2⟩ := of_decide_eq_true hk
  have key := rnds_afi (step := fun g => st_afi (cOfaf g.2.1) g.1.2.2.2.1 g.1.2.2.2.2.1 g.1.2.2.2.2.2.1 g.1.2.2.2.2.2.2.1 g.1.2.2.2.2.2.2.2.1 (sOfaf g.2.1)) (fun _ _ _ _ _ _ _ => rfl) R (cOfaf g.2.1) g.1.2.2.2.1 g.1.2.2.2.2.1 g.1.2.2.2.2.2.1 g.1.2.2.2.2.2.2.1 (sOfaf g.2.1) y ⟨hK1, hK2⟩ hc hy hr
  rw [← h0] at key
  exact key
/-! the loop over balls -/
noncomputable def Lt_afo : LoopT := fun k => bif Nat.beq k 6 then some (loopSum2 L_afi E_afi (fin_afi )) else none
def row_afo (c : Caf) (n o : Int) (s : Saf) (dead : Bool) : Tree (L_afo.T ⊕ Left2 E_afo) :=
  bif dead then .need (selfL [lk_af]) (.leaf (.inl (hd_afo c n (W64 (o + 1)) s))) else
    .need (selfL [lk_af]) (bif okK (brd c.x) (sq (brd c.x)) 0 && okX (all_af c (roqs (brd c.x) o (sq (brd c.x))) s) then
      .need (selfL [lk_af]) (.leaf (.inl (hd_afo c n (W64 (o + 1)) (gX () (all_af c (roqs (brd c.x) o (sq (brd c.x))) s))))) else bif okK (brd c.x) (sq (brd c.x)) 0 && isR (all_af c (roqs (brd c.x) o (sq (brd c.x))) s) then .need (selfL [lkq_af]) (.leaf (.inr (rt_afo c (gR (all_af c (roqs (brd c.x) o (sq (brd c.x))) s))))) else .fail)
def st_afo (c : Caf) (n o : Int) (s : Saf) : Tree (L_afo.T ⊕ Left2 E_afo) :=
  bif decide (o < n) then bif decide (o = ↑(0 : Nat)) then row_afo c n o s c.q.2.2.2.2.2.1 else bif decide (o = ↑(0 + 1 : Nat)) then row_afo c n o s c.q.2.2.2.2.2.2.1 else .fail
  else .need (selfL [lk_af]) (.leaf (.inr (ex_afo c s)))
theorem e_afo (g : L_afo.T) : evC Tryz.prog (evFn X_c 7) X_c.pures 45 X_c.u (Lt_afo ) lb_vo (L_afo.of g) (stepOut2 L_afo E_afo) = st_afo (cOfaf g.2.1) g.1.2.2.2.1 g.1.2.2.2.2.1 (sOfaf g.2.1) := by kernel_rfl
def fin_afo' (c : Caf) (n o : Int) (s : Saf) : Tree (Left2 E_afo) := .br (okN (brd c.x) n o && okX (all_af c (rowsA (brd c.x) c.q n) s)) (.leaf (ex_afo c (gX () (all_af c (rowsA (brd c.x) c.q n) s)))) (.br (okN (brd c.x) n o && isR (all_af c (rowsA (brd c.x) c.q n) s)) (.leaf (rt_afo c (gR (all_af c (rowsA (brd c.x) c.q n) s)))) .fail)
noncomputable def fin_afo (g : L_afo.T) : Tree (Left2 E_afo) := fin_afo' (cOfaf g.2.1) g.1.2.2.2.1 g.1.2.2.2.2.1 (sOfaf g.2.1)
def res_afo (c : Caf) (y : Saf ⊕ Unit) : Left2 E_afo := match y with
  | .inl s => ex_afo c s
  | .inr b => rt_afo c b
theorem fin_afo_ok {R : Left2 E_afo → Prop} {c : Caf} {n o : Int} {s : Saf} (hf : (fin_afo' c n o s).sat R) : okN (brd c.x) n o = true ∧ ∃ y, all_af c (rowsA (brd c.x) c.q n) s = some y ∧ R (res_afo c y) := by
  unfold fin_afo' at hf
  obtain ⟨hf, h0⟩ := hf
  cases hk : okN (brd c.x) n o with
  | false =>
    exfalso
    have h0 := h0 (by rw [hk]; rfl)
    exact h0.2 (by rw [hk]; rfl)
  | true =>
    refine ⟨rfl, ?_⟩
    cases hy : all_af c (rowsA (brd c.x) c.q n) s with
    | none =>
      exfalso
      have h0 := h0 (by rw [hk, hy]; rfl)
      exact h0.2 (by rw [hk, hy]; rfl)
    | some y =>
      refine ⟨y, rfl, ?_⟩
      cases y with
      | inl s' =>
        have := hf (by rw [hk, hy]; rfl)
        rw [hy] at this
        exact this
      | inr b =>
        have := (h0 (by rw [hk, hy]; rfl)).1 (by rw [hk, hy]; rfl)
        rw [hy] at this
        exact this
theorem row_afo_ok {c : Caf} {n : Int} {i : Nat} {s : Saf} {y : Saf ⊕ Unit} {Q : L_afo.T ⊕ Left2 E_afo → Prop} (hi : i ≤ 2) (hK : okK (brd c.x) (sq (brd c.x)) 0 = true) (dead : Bool) (hg : all_af c (bif dead then [] else roqs (brd c.x) i (sq (brd c.x))) s = some y) (hQ : nextX y (fun s' => Q (.inl (hd_afo c n ((i + 1 : Nat) : Int) s'))) (fun b => Q (.inr (res_afo c (.inr b))))) :
    (row_afo c n i s dead).sat Q := by
  unfold row_afo
  rw [show W64 ((i : Int) + 1) = ((i + 1 : Nat) : Int) from (W64_id (by omega) (by omega))]
  cases dead with
  | true =>
    cases hg
    exact ⟨selfL_ok _, hQ⟩
  | false =>
    rw [cond_false] at hg
    rw [hK, hg]
    cases y with
    | inl s' => exact ⟨selfL_ok _, selfL_ok _, hQ⟩
    | inr b => exact ⟨selfL_ok _, selfL_ok _, hQ⟩
theorem rnds_afo {step : L_afo.T → Tree (L_afo.T ⊕ Left2 E_afo)} (hs : ∀ c n o s, step (hd_afo c n o s) = st_afo c n o s) (R : Left2 E_afo → Prop) (c : Caf) (n : Int) (s : Saf) (y : Saf ⊕ Unit) (hn : n ≤ 2) (hK : okK (brd c.x) (sq (brd c.x)) 0 = true)
    (hf : all_af c (rowsA (brd c.x) c.q n) s = some y) (hr : R (res_afo c y)) : ∃ m, Rnds2 L_afo E_afo step R m (hd_afo c n 0 s) := by
  unfold all_af rowsA at hf
  rw [foldX_flat] at hf
  refine ⟨_, rnds2_foldX (List.range n.toNat) (fun (i : Nat) s => hd_afo c n (i : Int) s) (fun s i => foldX (g_af c) (rowA (brd c.x) c.q i) s) (res_afo c) ?_ ?_ (List.range n.toNat).length 0 s y (by omega) (by rw [List.drop_zero]; exact hf) hr⟩
  · intro i s1 y1 hi Q _ hg hQ
    rw [List.length_range] at hi
    rw [List.getElem_range] at hg
    rw [hs]
    unfold st_afo
    rw [decide_eq_true (show (i : Int) < n by omega), cond_true]
    unfold rowA at hg
    match i, hi, hg, hQ with
    | 0, _, hg, hQ => exact row_afo_ok (i := 0) (by omega) hK _ hg hQ
    | 1, _, hg, hQ => exact row_afo_ok (i := 1) (by omega) hK _ hg hQ
    | i + 2, hi, _, _ => omega
  · intro s1 Q hQ
    rw [hs]
    unfold st_afo
    rw [List.length_range, decide_eq_false (show ¬ ((n.toNat : Nat) : Int) < n by omega)]
    exact ⟨selfL_ok _, hQ⟩
theorem l_afo : LoopOk Tryz.prog 45 lb_vo (loopSum2 L_afo E_afo (fin_afo )) := by
  refine loopOk_of2 (X := X_c) X_c_ok 7 45 (Lt_afo ) ?_ L_afo E_afo (fun e => by cases e <;> exact Nat.le_refl _) (fin_afo ) (fun g => st_afo (cOfaf g.2.1) g.1.2.2.2.1 g.1.2.2.2.2.1 (sOfaf g.2.1)) (e_afo ) ?_
  · intro d hd f hf
    have hl : loopsOf lb_vo = [lb_vi] := by kernel_rfl
    rw [hl, List.mem_singleton] at hd
    subst hd
    have hk : keyOf lb_vi = 6 := by kernel_rfl
    rw [hk] at hf
    have : Lt_afo 6 = some (loopSum2 L_afi E_afi (fin_afi )) := rfl
    rw [this, Option.some.injEq] at hf
    subst hf
    exact l_afi 
  intro g R _ hf
  obtain ⟨hk, y, hy, hr⟩ := fin_afo_ok (c := cOfaf g.2.1) (n := g.1.2.2.2.1) (o := g.1.2.2.2.2.1) (s := sOfaf g.2.1) hf
  unfold okN at hk
  rw [Bool.and_eq_true_iff] at hk
  obtain ⟨hk, hc⟩ := hk
  obtain ⟨h0, hn⟩ := of_decide_eq_true hk
  have key := rnds_afo (step := fun g => st_afo (cOfaf g.2.1) g.1.2.2.2.1 g.1.2.2.2.2.1 (sOfaf g.2.1)) (fun _ _ _ _ => rfl) R (cOfaf g.2.1) g.1.2.2.2.1 (sOfaf g.2.1) y hn hc hy hr
  rw [← h0] at key
  exact key
end V
end Go.Proofs.YtialgmhhkbdegaaGreat
