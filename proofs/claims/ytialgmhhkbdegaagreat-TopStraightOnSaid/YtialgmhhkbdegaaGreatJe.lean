/- The best act: the loops over acts. -/
import Derived.Test.YtialgmhhkbdegaaGreatJd
namespace Go.Proofs.YtialgmhhkbdegaaGreat
open Go.RowKit
namespace V
theorem is_best : FnIs Tryz.prog (19, Tryz.f19) := ⟨Tryz.func19, by kernel_rfl, by kernel_rfl⟩
theorem is_best1 : FnIs Tryz.prog (36, Tryz.f36) := ⟨Tryz.func36, by kernel_rfl, by kernel_rfl⟩
theorem is_firstA : FnIs Tryz.prog (35, Tryz.f35) := ⟨Tryz.func35, by kernel_rfl, by kernel_rfl⟩
def okR {S B : Type} (y : S ⊕ B) : Bool := match y with
  | .inl _ => true
  | .inr _ => false
def isR {S B : Type} (y : Option (S ⊕ B)) : Bool := match y with
  | some (.inr _) => true
  | _ => false
def gR {S B : Type} (_ : Option (S ⊕ B)) : Unit := ()
theorem foldX_append {S α B : Type} (g : S → α → Option (S ⊕ B)) : ∀ (l k : List α) (s : S), foldX g (l ++ k) s = match foldX g l s with
    | some (.inl s') => foldX g k s'
    | r => r
  | [], _, _ => rfl
  | x :: l, k, s => by
    simp only [List.cons_append, foldX]
    cases g s x with
    | none => rfl
    | some y =>
      cases y with
      | inl s' => exact foldX_append g l k s'
      | inr b => rfl
theorem foldX_flat {S α β B : Type} (g : S → α → Option (S ⊕ B)) (f : β → List α) : ∀ (l : List β) (s : S), foldX g (l.flatMap f) s = foldX (fun s i => foldX g (f i) s) l s
  | [], _ => rfl
  | x :: l, s => by
    rw [List.flatMap_cons, foldX_append]
    simp only [foldX]
    cases foldX g (f x) s with
    | none => rfl
    | some y =>
      cases y with
      | inl s' => exact foldX_flat g f l s'
      | inr b => rfl
theorem foldX_in {S α B : Type} {g : S → α → Option (S ⊕ B)} (h : ∀ s a b, g s a ≠ some (.inr b)) : ∀ (l : List α) (s : S) (b : B), foldX g l s ≠ some (.inr b)
  | [], _, _ => fun h => nomatch h
  | x :: l, s, b => by
    simp only [foldX]
    cases hg : g s x with
    | none => exact fun h => nomatch h
    | some y =>
      cases y with
      | inl s' => exact foldX_in h l s' b
      | inr b' => exact absurd hg (h s x b')
abbrev kA : List SK := [.d cI, .d cI, .d cI, .d cI]
noncomputable def X_b (V : VM) : Ctx := ctxS Tryz.prog plSe [(35, Tryz.f35), (36, Tryz.f36)] [] [(30, sp_wo V)]
theorem X_b_ok {V : VM} (hV : SpecOk Tryz.prog 30 (sp_wo V)) : CtxOk (X_b V) := ctxS_ok mixed puSe (fns_cons is_firstA (fns_cons is_best1 fns_nil)) no_loops (one_spec is_worth.plain hV)
noncomputable def lk_b : LK := { id := 1010, keys := [3, 4, 5, 6], ks := [.p 1005 0 0 0, .p 1006 0 0 0, .p 1007 0 0 0, .p 1008 0 0 0], n := 25, fn := 35, params := [10], assign := (rangeAt Tryz.f35 0).1, body := (rangeAt Tryz.f35 0).2, df := 1009, st := some 0 }
def bs_b : List BK := [(0, 82, kS), (1, 0, [.m cP cC]), (1000, 60, [.p 0 0 0 0]), (1001, 66, kP), (1002, 52, kA), (1003, 60, [.p 0 0 0 0]), (1004, 66, kP), (1005, 99, [.f 36 [] [.p 1000 0 0 0, .p 1001 0 0 0]]), (1006, 52, kA), (1007, 4, [.d .b]), (1008, 2, [.d cI])]
noncomputable def L_bi : Lay2 := { keys := [0, 1, 2, 4, 22, 23, 34, 35], ks := [.y 1010, .p 1004 0 0 0, .p 1003 0 0 0, .d cI, .d cI, .d cI, .d cI, .d cI], bs := bs_b, ls := [lk_b], n := 53, nx := 9000, marks := [], ds := [1009] }
noncomputable def L_bo : Lay2 := { keys := [0, 1, 2, 22, 23], ks := [.y 1010, .p 1004 0 0 0, .p 1003 0 0 0, .d cI, .d cI], bs := bs_b, ls := [lk_b], n := 53, nx := 5000, marks := [], ds := [1009] }
noncomputable def R_bi : Lay2 := { keys := [0, 1, 2, 22, 23], ks := [.y 1010, .p 1004 0 0 0, .p 1003 0 0 0, .d cI, .d cI], bs := bs_b, ls := [lk_b], n := 53, nx := 9000, marks := [], ds := [1009] }
noncomputable def R_bo : Lay2 := { keys := [], ks := [], bs := bs_b, ls := [lk_b], n := 53, nx := 5000, marks := [], ds := [1009] }
noncomputable def E_bi : XE → Lay2 := fun _ => R_bi
noncomputable def E_bo : XE → Lay2 := fun _ => R_bo
structure Cb where
  x : SKTs kS
  p : SKTs kP
  r : SKTs kA
  q : SKTs kP
abbrev Sb : Type := TCT cA × Bool × Int × Memo
def bsFb (c : Cb) (s : Sb) : BTs bs_b := (c.x, (s.2.2.2, ()), ((), ()), c.p, c.r, ((), ()), c.q, (((), (), (), ()), ()), s.1, (s.2.1, ()), (s.2.2.1, ()), ())
def lsb : LTs [lk_b] := (((((), (), (), (), ()) : SKTs lk_b.ks), ((() : Unit) : StT lk_b.st)), ())
def cOfb (t : BTs bs_b) : Cb := ⟨t.1, t.2.2.2.1, t.2.2.2.2.1, t.2.2.2.2.2.2.1⟩
def sOfb (t : BTs bs_b) : Sb := (t.2.2.2.2.2.2.2.2.1, t.2.2.2.2.2.2.2.2.2.1.1, t.2.2.2.2.2.2.2.2.2.2.1.1, t.2.1.1)
def hd_bi (c : Cb) (i n o K k : Int) (s : Sb) : L_bi.T := (((), (), (), i, n, o, K, k, ()), bsFb c s, lsb)
def ex_bi (c : Cb) (n o : Int) (s : Sb) : Left2 E_bi := ⟨.exit 2, (((), (), (), n, o, ()), bsFb c s, lsb)⟩
def hd_bo (c : Cb) (n o : Int) (s : Sb) : L_bo.T := (((), (), (), n, o, ()), bsFb c s, lsb)
def ex_bo (c : Cb) (s : Sb) : Left2 E_bo := ⟨.exit 0, ((), bsFb c s, lsb)⟩
def db : Sb := ((0, 0, 0, 0, ()), false, 0, fun _ => none)
def wB (V : VM) (c : Cb) (s : Sb) (a : TCT cA) : ROp := wM V (brd c.x) (plc c.p) a s.2.2.2
def stB (s : Sb) (a : TCT cA) (r : ROp) : Sb := bif !s.2.1 then (a, true, (gv r).1, gm r) else bif decide ((gv r).1 > s.2.2.1) then (a, true, (gv r).1, gm r) else (s.1, s.2.1, s.2.2.1, gm r)
def row_b {α : Type} (V : VM) (c : Cb) (s : Sb) (a : TCT cA) (K : Sb ⊕ Unit → Tree α) : Tree α := bif (wB V c s a).isSome then bif !s.2.1 then K (.inl (a, true, (gv (wB V c s a)).1, gm (wB V c s a))) else bif decide ((gv (wB V c s a)).1 > s.2.2.1) then K (.inl (a, true, (gv (wB V c s a)).1, gm (wB V c s a))) else K (.inl (s.1, s.2.1, s.2.2.1, gm (wB V c s a))) else .fail
/-- what the consumer does with an act -/
def g_b (V : VM) (c : Cb) (s : Sb) (a : TCT cA) : Option (Sb ⊕ Unit) := bif (wB V c s a).isSome then some (.inl (stB s a (wB V c s a))) else none
theorem row_b_ok {α : Type} {V : VM} {c : Cb} {s : Sb} {a : TCT cA} {K : Sb ⊕ Unit → Tree α} {Q : α → Prop} {y : Sb ⊕ Unit} (h : g_b V c s a = some y) (hQ : (K y).sat Q) : (row_b V c s a K).sat Q := by
  unfold g_b stB at h
  unfold row_b
  cases hw : (wB V c s a).isSome with
  | false => rw [hw] at h; cases h
  | true =>
    rw [hw, cond_true] at h
    cases h
    rw [cond_true]
    cases hs : s.2.1 with
    | false => rw [hs] at hQ; exact hQ
    | true =>
      rw [hs] at hQ
      cases hd : decide ((gv (wB V c s a)).1 > s.2.2.1) with
      | true => rw [hd] at hQ; exact hQ
      | false => rw [hd] at hQ; exact hQ
theorem g_b_in (V : VM) (c : Cb) (s : Sb) (a : TCT cA) (b : Unit) : g_b V c s a ≠ some (.inr b) := by
  unfold g_b
  cases (wB V c s a).isSome <;> exact fun h => nomatch h
def KI_b (c : Cb) (i n o K k : Int) (y : Sb ⊕ Unit) : Tree (L_bi.T ⊕ Left2 E_bi) := match y with
  | .inl s => .need (selfL [lk_b]) (.leaf (.inl (hd_bi c i n o K (W64 (k + 1)) s)))
  | .inr _ => .fail
def st_bi (V : VM) (c : Cb) (i n o K k : Int) (s : Sb) : Tree (L_bi.T ⊕ Left2 E_bi) :=
  bif decide (k < K) then bif cellsF (brd c.x) != 0 then bif cellsF (brd c.x) != 0 then row_b V c s (roq (brd c.x) i k) (KI_b c i n o K k) else .fail else .fail else .need (selfL [lk_b]) (.leaf (.inr (ex_bi c n o s)))
theorem e_bi (V : VM) (g : L_bi.T) : evC Tryz.prog (evFn (X_b V) 7) (X_b V).pures 45 (X_b V).u (fun _ => none) lb_vi (L_bi.of g) (stepOut2 L_bi E_bi) = st_bi V (cOfb g.2.1) g.1.2.2.2.1 g.1.2.2.2.2.1 g.1.2.2.2.2.2.1 g.1.2.2.2.2.2.2.1 g.1.2.2.2.2.2.2.2.1 (sOfb g.2.1) := by kernel_rfl
def all_b (V : VM) (c : Cb) (l : List (TCT cA)) (s : Sb) : Option (Sb ⊕ Unit) := foldX (g_b V c) l s
def fin_bi' (V : VM) (c : Cb) (i n o K k : Int) (s : Sb) : Tree (Left2 E_bi) := .br (okK (brd c.x) K k && okX (all_b V c (roqs (brd c.x) i K) s)) (.leaf (ex_bi c n o (gX db (all_b V c (roqs (brd c.x) i K) s)))) .fail
noncomputable def fin_bi (V : VM) (g : L_bi.T) : Tree (Left2 E_bi) := fin_bi' V (cOfb g.2.1) g.1.2.2.2.1 g.1.2.2.2.2.1 g.1.2.2.2.2.2.1 g.1.2.2.2.2.2.2.1 g.1.2.2.2.2.2.2.2.1 (sOfb g.2.1)
def res_bi (c : Cb) (n o : Int) (y : Sb ⊕ Unit) : Left2 E_bi := match y with
  | .inl s => ex_bi c n o s
  | .inr b => ex_bi c n o db
theorem fin_bi_ok {V : VM} {R : Left2 E_bi → Prop} {c : Cb} {i n o K k : Int} {s : Sb} (hf : (fin_bi' V c i n o K k s).sat R) : okK (brd c.x) K k = true ∧ ∃ y, all_b V c (roqs (brd c.x) i K) s = some y ∧ okR y = true ∧ R (res_bi c n o y) := by
  unfold fin_bi' at hf
  obtain ⟨hf, h0⟩ := hf
  cases hk : okK (brd c.x) K k with
  | false =>
    exfalso
    have h0 := h0 (by rw [hk]; rfl)
    exact h0
  | true =>
    refine ⟨rfl, ?_⟩
    cases hy : all_b V c (roqs (brd c.x) i K) s with
    | none =>
      exfalso
      have h0 := h0 (by rw [hk, hy]; rfl)
      exact h0
    | some y =>
      refine ⟨y, rfl, ?_⟩
      cases y with
      | inl s' =>
        have := hf (by rw [hk, hy]; rfl)
        rw [hy] at this
        exact ⟨rfl, this⟩
      | inr b =>
        exact (h0 (by rw [hk, hy]; rfl)).elim
theorem rnds_bi {V : VM} {step : L_bi.T → Tree (L_bi.T ⊕ Left2 E_bi)} (hs : ∀ c i n o K k s, step (hd_bi c i n o K k s) = st_bi V c i n o K k s) (R : Left2 E_bi → Prop) (c : Cb) (i n o K : Int) (s : Sb) (y : Sb ⊕ Unit) (hK : 0 ≤ K ∧ K ≤ 1000) (hc : (cellsF (brd c.x) != 0) = true)
    (hf : all_b V c (roqs (brd c.x) i K) s = some y) (hy : okR y = true) (hr : R (res_bi c n o y)) : ∃ m, Rnds2 L_bi E_bi step R m (hd_bi c i n o K 0 s) := by
  have hlen : (roqs (brd c.x) i K).length = K.toNat := by unfold roqs; rw [List.length_map, List.length_range]
  refine ⟨_, rnds2_foldX (roqs (brd c.x) i K) (fun (k : Nat) s => hd_bi c i n o K (k : Int) s) (g_b V c) (res_bi c n o) ?_ ?_ (roqs (brd c.x) i K).length 0 s y (by omega) (by rw [List.drop_zero]; exact hf) hr⟩
  · intro k s1 y1 hk Q _ hg hQ
    rw [hs]
    have hk' : k < K.toNat := by omega
    rw [roqs_get hk] at hg
    unfold st_bi
    rw [decide_eq_true (show (k : Int) < K by omega), hc, cond_true, cond_true, cond_true]
    refine row_b_ok hg ?_
    unfold KI_b
    rw [show W64 ((k : Int) + 1) = ((k + 1 : Nat) : Int) from (W64_id (by omega) (by omega))]
    cases y1 with
    | inl s2 => exact ⟨selfL_ok _, hQ⟩
    | inr b => exact absurd hg (g_b_in V c _ _ b)
  · intro s1 Q hQ
    rw [hs]
    unfold st_bi
    rw [decide_eq_false (show ¬ (((roqs (brd c.x) i K).length : Nat) : Int) < K by omega)]
    exact ⟨selfL_ok _, hQ⟩
theorem l_bi {V : VM} (hV : SpecOk Tryz.prog 30 (sp_wo V)) : LoopOk Tryz.prog 45 lb_vi (loopSum2 L_bi E_bi (fin_bi V )) := by
  refine loopOk_of2 (X := (X_b V)) (X_b_ok hV) 7 45 (fun _ => none) (fun _ _ f h => by simp at h) L_bi E_bi (fun e => by cases e <;> exact Nat.le_refl _) (fin_bi V ) (fun g => st_bi V (cOfb g.2.1) g.1.2.2.2.1 g.1.2.2.2.2.1 g.1.2.2.2.2.2.1 g.1.2.2.2.2.2.2.1 g.1.2.2.2.2.2.2.2.1 (sOfb g.2.1)) (e_bi V ) ?_
  intro g R _ hf
  obtain ⟨hk, y, hy, hr⟩ := fin_bi_ok (V := V) (c := cOfb g.2.1) (i := g.1.2.2.2.1) (n := g.1.2.2.2.2.1) (o := g.1.2.2.2.2.2.1) (K := g.1.2.2.2.2.2.2.1) (k := g.1.2.2.2.2.2.2.2.1) (s := sOfb g.2.1) hf
  unfold okK at hk
  rw [Bool.and_eq_true_iff] at hk
  obtain ⟨hk, hc⟩ := hk
  obtain ⟨h0, hK1, hK2⟩ := of_decide_eq_true hk
  have key := rnds_bi (V := V) (step := fun g => st_bi V (cOfb g.2.1) g.1.2.2.2.1 g.1.2.2.2.2.1 g.1.2.2.2.2.2.1 g.1.2.2.2.2.2.2.1 g.1.2.2.2.2.2.2.2.1 (sOfb g.2.1)) (fun _ _ _ _ _ _ _ => rfl) R (cOfb g.2.1) g.1.2.2.2.1 g.1.2.2.2.2.1 g.1.2.2.2.2.2.1 g.1.2.2.2.2.2.2.1 (sOfb g.2.1) y ⟨hK1, hK2⟩ hc hy hr.1 hr.2
  rw [← h0] at key
  exact key
/-! the loop over balls -/
noncomputable def Lt_bo (V : VM) : LoopT := fun k => bif Nat.beq k 6 then some (loopSum2 L_bi E_bi (fin_bi V )) else none
def row_bo (V : VM) (c : Cb) (n o : Int) (s : Sb) (dead : Bool) : Tree (L_bo.T ⊕ Left2 E_bo) :=
  bif dead then .need (selfL [lk_b]) (.leaf (.inl (hd_bo c n (W64 (o + 1)) s))) else
    .need (selfL [lk_b]) (bif okK (brd c.x) (sq (brd c.x)) 0 && okX (all_b V c (roqs (brd c.x) o (sq (brd c.x))) s) then
      .need (selfL [lk_b]) (.leaf (.inl (hd_bo c n (W64 (o + 1)) (gX db (all_b V c (roqs (brd c.x) o (sq (brd c.x))) s))))) else .fail)
def st_bo (V : VM) (c : Cb) (n o : Int) (s : Sb) : Tree (L_bo.T ⊕ Left2 E_bo) :=
  bif decide (o < n) then bif decide (o = ↑(0 : Nat)) then row_bo V c n o s c.q.2.2.2.2.2.1 else bif decide (o = ↑(0 + 1 : Nat)) then row_bo V c n o s c.q.2.2.2.2.2.2.1 else .fail
  else .need (selfL [lk_b]) (.leaf (.inr (ex_bo c s)))
theorem e_bo (V : VM) (g : L_bo.T) : evC Tryz.prog (evFn (X_b V) 7) (X_b V).pures 45 (X_b V).u (Lt_bo V ) lb_vo (L_bo.of g) (stepOut2 L_bo E_bo) = st_bo V (cOfb g.2.1) g.1.2.2.2.1 g.1.2.2.2.2.1 (sOfb g.2.1) := by kernel_rfl
def fin_bo' (V : VM) (c : Cb) (n o : Int) (s : Sb) : Tree (Left2 E_bo) := .br (okN (brd c.x) n o && okX (all_b V c (rowsA (brd c.x) c.q n) s)) (.leaf (ex_bo c (gX db (all_b V c (rowsA (brd c.x) c.q n) s)))) .fail
noncomputable def fin_bo (V : VM) (g : L_bo.T) : Tree (Left2 E_bo) := fin_bo' V (cOfb g.2.1) g.1.2.2.2.1 g.1.2.2.2.2.1 (sOfb g.2.1)
def res_bo (c : Cb) (y : Sb ⊕ Unit) : Left2 E_bo := match y with
  | .inl s => ex_bo c s
  | .inr b => ex_bo c db
theorem fin_bo_ok {V : VM} {R : Left2 E_bo → Prop} {c : Cb} {n o : Int} {s : Sb} (hf : (fin_bo' V c n o s).sat R) : okN (brd c.x) n o = true ∧ ∃ y, all_b V c (rowsA (brd c.x) c.q n) s = some y ∧ okR y = true ∧ R (res_bo c y) := by
  unfold fin_bo' at hf
  obtain ⟨hf, h0⟩ := hf
  cases hk : okN (brd c.x) n o with
  | false =>
    exfalso
    have h0 := h0 (by rw [hk]; rfl)
    exact h0
  | true =>
    refine ⟨rfl, ?_⟩
    cases hy : all_b V c (rowsA (brd c.x) c.q n) s with
    | none =>
      exfalso
      have h0 := h0 (by rw [hk, hy]; rfl)
      exact h0
    | some y =>
      refine ⟨y, rfl, ?_⟩
      cases y with
      | inl s' =>
        have := hf (by rw [hk, hy]; rfl)
        rw [hy] at this
        exact ⟨rfl, this⟩
      | inr b =>
        exact (h0 (by rw [hk, hy]; rfl)).elim
theorem row_bo_ok {V : VM} {c : Cb} {n : Int} {i : Nat} {s : Sb} {y : Sb ⊕ Unit} {Q : L_bo.T ⊕ Left2 E_bo → Prop} (hi : i ≤ 2) (hK : okK (brd c.x) (sq (brd c.x)) 0 = true) (dead : Bool) (hg : all_b V c (bif dead then [] else roqs (brd c.x) i (sq (brd c.x))) s = some y) (hy : okR y = true) (hQ : nextX y (fun s' => Q (.inl (hd_bo c n ((i + 1 : Nat) : Int) s'))) (fun b => Q (.inr (res_bo c (.inr b))))) :
    (row_bo V c n i s dead).sat Q := by
  unfold row_bo
  rw [show W64 ((i : Int) + 1) = ((i + 1 : Nat) : Int) from (W64_id (by omega) (by omega))]
  cases dead with
  | true =>
    cases hg
    exact ⟨selfL_ok _, hQ⟩
  | false =>
    rw [cond_false] at hg
    rw [hK, hg]
    cases y with
    | inl s' => exact ⟨selfL_ok _, selfL_ok _, hQ⟩
    | inr b => cases hy
theorem rnds_bo {V : VM} {step : L_bo.T → Tree (L_bo.T ⊕ Left2 E_bo)} (hs : ∀ c n o s, step (hd_bo c n o s) = st_bo V c n o s) (R : Left2 E_bo → Prop) (c : Cb) (n : Int) (s : Sb) (y : Sb ⊕ Unit) (hn : n ≤ 2) (hK : okK (brd c.x) (sq (brd c.x)) 0 = true)
    (hf : all_b V c (rowsA (brd c.x) c.q n) s = some y) (hr : R (res_bo c y)) : ∃ m, Rnds2 L_bo E_bo step R m (hd_bo c n 0 s) := by
  unfold all_b rowsA at hf
  rw [foldX_flat] at hf
  refine ⟨_, rnds2_foldX (List.range n.toNat) (fun (i : Nat) s => hd_bo c n (i : Int) s) (fun s i => foldX (g_b V c) (rowA (brd c.x) c.q i) s) (res_bo c) ?_ ?_ (List.range n.toNat).length 0 s y (by omega) (by rw [List.drop_zero]; exact hf) hr⟩
  · intro i s1 y1 hi Q _ hg hQ
    rw [List.length_range] at hi
    rw [List.getElem_range] at hg
    rw [hs]
    have hy1 : okR y1 = true := by
      cases y1 with
      | inl _ => rfl
      | inr b => exact absurd hg (foldX_in (fun s a b => g_b_in V c s a b) _ _ b)
    unfold st_bo
    rw [decide_eq_true (show (i : Int) < n by omega), cond_true]
    unfold rowA at hg
    match i, hi, hg, hQ with
    | 0, _, hg, hQ => exact row_bo_ok (i := 0) (by omega) hK _ hg hy1 hQ
    | 1, _, hg, hQ => exact row_bo_ok (i := 1) (by omega) hK _ hg hy1 hQ
    | i + 2, hi, _, _ => omega
  · intro s1 Q hQ
    rw [hs]
    unfold st_bo
    rw [List.length_range, decide_eq_false (show ¬ ((n.toNat : Nat) : Int) < n by omega)]
    exact ⟨selfL_ok _, hQ⟩
theorem l_bo {V : VM} (hV : SpecOk Tryz.prog 30 (sp_wo V)) : LoopOk Tryz.prog 45 lb_vo (loopSum2 L_bo E_bo (fin_bo V )) := by
  refine loopOk_of2 (X := (X_b V)) (X_b_ok hV) 7 45 (Lt_bo V ) ?_ L_bo E_bo (fun e => by cases e <;> exact Nat.le_refl _) (fin_bo V ) (fun g => st_bo V (cOfb g.2.1) g.1.2.2.2.1 g.1.2.2.2.2.1 (sOfb g.2.1)) (e_bo V ) ?_
  · intro d hd f hf
    have hl : loopsOf lb_vo = [lb_vi] := by kernel_rfl
    rw [hl, List.mem_singleton] at hd
    subst hd
    have hk : keyOf lb_vi = 6 := by kernel_rfl
    rw [hk] at hf
    have : Lt_bo V 6 = some (loopSum2 L_bi E_bi (fin_bi V )) := rfl
    rw [this, Option.some.injEq] at hf
    subst hf
    exact l_bi hV
  intro g R _ hf
  obtain ⟨hk, y, hy, hr⟩ := fin_bo_ok (V := V) (c := cOfb g.2.1) (n := g.1.2.2.2.1) (o := g.1.2.2.2.2.1) (s := sOfb g.2.1) hf
  unfold okN at hk
  rw [Bool.and_eq_true_iff] at hk
  obtain ⟨hk, hc⟩ := hk
  obtain ⟨h0, hn⟩ := of_decide_eq_true hk
  have key := rnds_bo (V := V) (step := fun g => st_bo V (cOfb g.2.1) g.1.2.2.2.1 g.1.2.2.2.2.1 (sOfb g.2.1)) (fun _ _ _ _ => rfl) R (cOfb g.2.1) g.1.2.2.2.1 (sOfb g.2.1) y hn hc hy hr.2
  rw [← h0] at key
  exact key
end V
end Go.Proofs.YtialgmhhkbdegaaGreat
