/- The value of a place: the loops over its acts. -/
import Derived.Test.YtialgmhhkbdegaaGreatGh
namespace Go.Proofs.YtialgmhhkbdegaaGreat
open Go.RowKit
namespace V
noncomputable def lk_v : LK := { id := 1019, keys := [2, 3, 4, 7], ks := [.p 1000 0 0 0, .p 1001 0 0 0, .p 1002 0 0 0, .p 1015 0 0 0], n := 48, fn := 16, params := [24], assign := (rangeAt Tryz.f16 0).1, body := (rangeAt Tryz.f16 0).2, df := 1018, st := some 0 }
abbrev kP : List SK := [.d cI, .d cI, .d cI, .d cI, .d cI, .d .b, .d .b]
def bs_v : List BK := [(0, 82, kS), (1, 0, [.m cP cC]), (1000, 60, [.p 0 0 0 0]), (1001, 66, kP), (1002, 30, [.d cI, .d cI]), (1015, 30, [.d cI, .d cI]), (1016, 60, [.p 0 0 0 0]), (1017, 66, kP)]
noncomputable def L_vi : Lay2 := { keys := [0, 1, 2, 4, 22, 23, 34, 35], ks := [.y 1019, .p 1017 0 0 0, .p 1016 0 0 0, .d cI, .d cI, .d cI, .d cI, .d cI], bs := bs_v, ls := [lk_v], n := 53, nx := 9000, marks := [], ds := [1018] }
noncomputable def L_vo : Lay2 := { keys := [0, 1, 2, 22, 23], ks := [.y 1019, .p 1017 0 0 0, .p 1016 0 0 0, .d cI, .d cI], bs := bs_v, ls := [lk_v], n := 53, nx := 5000, marks := [], ds := [1018] }
noncomputable def R_vi : Lay2 := { keys := [0, 1, 2, 22, 23], ks := [.y 1019, .p 1017 0 0 0, .p 1016 0 0 0, .d cI, .d cI], bs := bs_v, ls := [lk_v], n := 53, nx := 9000, marks := [], ds := [1018] }
noncomputable def R_vo : Lay2 := { keys := [], ks := [], bs := bs_v, ls := [lk_v], n := 53, nx := 5000, marks := [], ds := [1018] }
noncomputable def E_vi : XE → Lay2 := fun _ => R_vi
noncomputable def E_vo : XE → Lay2 := fun _ => R_vo
noncomputable def lb_vo : Code := (loopsOf (bodyOf Tryz.f45)).getD 0 .skip
noncomputable def lb_vi : Code := (loopsOf (bodyOf Tryz.f45)).getD 1 .skip
noncomputable def X_vi (V : VM) : Ctx := ctxS Tryz.prog plSe [(16, Tryz.f16)] [] [(30, sp_wo V)]
abbrev SV : Type := TCT cC × Memo
def lsv : LTs [lk_v] := (((((), (), (), (), ()) : SKTs lk_v.ks), ((() : Unit) : StT lk_v.st)), ())
def plc (p : SKTs kP) : TCT cP := (p.1, p.2.1, p.2.2.1, (p.2.2.2.1, p.2.2.2.2.1, ()), (p.2.2.2.2.2.1, p.2.2.2.2.2.2.1, ()), ())
/-- what stays in the loops over acts -/
structure Cv where
  x : SKTs kS
  p : SKTs kP
  q : SKTs kP
  r : SKTs [SK.d cI, SK.d cI]
def bsv (c : Cv) (s : SV) : BTs bs_v := (c.x, (s.2, ()), ((), ()), c.p, c.r, (s.1.1, s.1.2.1, ()), ((), ()), c.q, ())
def hd_vi (c : Cv) (i n o K k : Int) (s : SV) : L_vi.T := (((), (), (), i, n, o, K, k, ()), bsv c s, lsv)
def ex_vi (c : Cv) (n o : Int) (s : SV) : Left2 E_vi := ⟨.exit 2, (((), (), (), n, o, ()), bsv c s, lsv)⟩
def maxC (a w : TCT cC) : TCT cC := (max a.1 w.1, max a.2.1 w.2.1, ())
/-- one act of a place -/
def stepA (V : VM) (b : TCT cB) (p : TCT cP) (s : SV) (a : TCT cA) : Option SV := (wM V b p a s.2).map fun w => (maxC s.1 w.1, w.2)
def roq (b : TCT cB) (i k : Int) : TCT cA := (2, i, W64 (Int.tdiv k (cellsF b)), Int.tmod k (cellsF b), ())
def st_vi (V : VM) (c : Cv) (i n o K k : Int) (s : SV) : Tree (L_vi.T ⊕ Left2 E_vi) :=
  bif decide (k < K) then bif cellsF (brd c.x) != 0 then bif cellsF (brd c.x) != 0 then
    bif (wM V (brd c.x) (plc c.p) (roq (brd c.x) i k) s.2).isSome then
      .need (selfL [lk_v]) (.leaf (.inl (hd_vi c i n o K (W64 (k + 1)) (maxC s.1 (gv (wM V (brd c.x) (plc c.p) (roq (brd c.x) i k) s.2)), gm (wM V (brd c.x) (plc c.p) (roq (brd c.x) i k) s.2))))) else .fail
  else .fail else .fail else .need (selfL [lk_v]) (.leaf (.inr (ex_vi c n o s)))
def cvI (g : L_vi.T) : Cv := ⟨g.2.1.1, g.2.1.2.2.2.1, g.2.1.2.2.2.2.2.2.2.1, g.2.1.2.2.2.2.1⟩
def svI (g : L_vi.T) : SV := (g.2.1.2.2.2.2.2.1, g.2.1.2.1.1)
theorem e_vi (V : VM) (g : L_vi.T) : evC Tryz.prog (evFn (X_vi V) 7) (X_vi V).pures 45 (X_vi V).u (fun _ => none) lb_vi (L_vi.of g) (stepOut2 L_vi E_vi) =
  st_vi V (cvI g) g.1.2.2.2.1 g.1.2.2.2.2.1 g.1.2.2.2.2.2.1 g.1.2.2.2.2.2.2.1 g.1.2.2.2.2.2.2.2.1 (svI g) := by kernel_rfl
def gs (r : Option SV) : SV := match r with
  | some s => s
  | none => ((0, 0, ()), fun _ => none)
def roqs (b : TCT cB) (i K : Int) : List (TCT cA) := (List.range K.toNat).map fun (k : Nat) => roq b i k
theorem roqs_get {b : TCT cB} {i K : Int} {k : Nat} (h : k < (roqs b i K).length) : (roqs b i K)[k] = roq b i k := by simp only [roqs, List.getElem_map, List.getElem_range]
def okK (b : TCT cB) (K k : Int) : Bool := decide (k = 0 ∧ 0 ≤ K ∧ K ≤ 1000) && cellsF b != 0
def fin_vi' (V : VM) (c : Cv) (i n o K k : Int) (s : SV) : Tree (Left2 E_vi) :=
  .br (okK (brd c.x) K k && (foldO (stepA V (brd c.x) (plc c.p)) s (roqs (brd c.x) i K)).isSome) (.leaf (ex_vi c n o (gs (foldO (stepA V (brd c.x) (plc c.p)) s (roqs (brd c.x) i K))))) .fail
noncomputable def fin_vi (V : VM) (g : L_vi.T) : Tree (Left2 E_vi) := fin_vi' V (cvI g) g.1.2.2.2.1 g.1.2.2.2.2.1 g.1.2.2.2.2.2.1 g.1.2.2.2.2.2.2.1 g.1.2.2.2.2.2.2.2.1 (svI g)
theorem stepA_some {V : VM} {b : TCT cB} {p : TCT cP} {s s' : SV} {a : TCT cA} (h : stepA V b p s a = some s') : (wM V b p a s.2).isSome = true ∧ s' = (maxC s.1 (gv (wM V b p a s.2)), gm (wM V b p a s.2)) := by
  unfold stepA at h
  cases hw : wM V b p a s.2 with
  | none => rw [hw] at h; cases h
  | some w =>
    rw [hw] at h
    cases h
    exact ⟨rfl, rfl⟩
theorem rnds_vi {V : VM} {step : L_vi.T → Tree (L_vi.T ⊕ Left2 E_vi)} (hs : ∀ c i n o K k s, step (hd_vi c i n o K k s) = st_vi V c i n o K k s) (R : Left2 E_vi → Prop) (c : Cv) (i n o K : Int) (s s' : SV) (hK : 0 ≤ K ∧ K ≤ 1000) (hc : (cellsF (brd c.x) != 0) = true)
    (hf : foldO (stepA V (brd c.x) (plc c.p)) s (roqs (brd c.x) i K) = some s') (hr : R (ex_vi c n o s')) : ∃ m, Rnds2 L_vi E_vi step R m (hd_vi c i n o K 0 s) := by
  have hlen : (roqs (brd c.x) i K).length = K.toNat := by unfold roqs; rw [List.length_map, List.length_range]
  refine ⟨_, rnds2_foldO (roqs (brd c.x) i K) (fun (k : Nat) s => hd_vi c i n o K (k : Int) s) (stepA V (brd c.x) (plc c.p)) (ex_vi c n o) ?_ ?_ (roqs (brd c.x) i K).length 0 s s' (by omega) (by rw [List.drop_zero]; exact hf) hr⟩
  · intro k s1 s2 hk Q _ hg hQ
    rw [hs]
    have hk' : k < K.toNat := by omega
    rw [roqs_get hk] at hg
    obtain ⟨h1, rfl⟩ := stepA_some hg
    unfold st_vi
    rw [decide_eq_true (show (k : Int) < K by omega), hc, h1, show W64 ((k : Int) + 1) = ((k + 1 : Nat) : Int) from (W64_id (by omega) (by omega))]
    exact ⟨selfL_ok _, hQ⟩
  · intro s1 Q hQ
    rw [hs]
    unfold st_vi
    rw [decide_eq_false (show ¬ (((roqs (brd c.x) i K).length : Nat) : Int) < K by omega)]
    exact ⟨selfL_ok _, hQ⟩
theorem l_vi {V : VM} (hV : SpecOk Tryz.prog 30 (sp_wo V)) : LoopOk Tryz.prog 45 lb_vi (loopSum2 L_vi E_vi (fin_vi V)) := by
  refine loopOk_of2 (X := X_vi V) (ctxS_ok mixed puSe (fns_cons is_value fns_nil) no_loops (one_spec is_worth.plain hV)) 7 45 (fun _ => none) (fun _ _ f h => by simp at h) L_vi E_vi (fun _ => Nat.le_refl _) (fin_vi V) (fun g => st_vi V (cvI g) g.1.2.2.2.1 g.1.2.2.2.2.1 g.1.2.2.2.2.2.1 g.1.2.2.2.2.2.2.1 g.1.2.2.2.2.2.2.2.1 (svI g)) (e_vi V) ?_
  rintro ⟨⟨⟨⟩, ⟨⟩, ⟨⟩, i, n, o, K, k, ⟨⟩⟩, ⟨x, ⟨m, ⟨⟩⟩, ⟨⟨⟩, ⟨⟩⟩, p, r, ⟨a1, a2, ⟨⟩⟩, ⟨⟨⟩, ⟨⟩⟩, q, ⟨⟩⟩, ⟨⟨⟨⟨⟩, ⟨⟩, ⟨⟩, ⟨⟩, ⟨⟩⟩, ⟨⟩⟩, ⟨⟩⟩⟩ R hw hf
  obtain ⟨hf, h0⟩ := hf
  change (okK (brd x) K k && (foldO (stepA V (brd x) (plc p)) ((a1, a2, ()), m) (roqs (brd x) i K)).isSome) = true → R (ex_vi ⟨x, p, q, r⟩ n o (gs (foldO (stepA V (brd x) (plc p)) ((a1, a2, ()), m) (roqs (brd x) i K)))) at hf
  change (okK (brd x) K k && (foldO (stepA V (brd x) (plc p)) ((a1, a2, ()), m) (roqs (brd x) i K)).isSome) = false → False at h0
  cases hk : okK (brd x) K k with
  | false => exact (h0 (by rw [hk]; rfl)).elim
  | true =>
    cases hr : foldO (stepA V (brd x) (plc p)) ((a1, a2, ()), m) (roqs (brd x) i K) with
    | none => exact (h0 (by rw [hk, hr]; rfl)).elim
    | some s' =>
      have hf2 := hf (by rw [hk, hr]; rfl)
      rw [hr] at hf2
      unfold okK at hk
      rw [Bool.and_eq_true_iff] at hk
      obtain ⟨hk, hc⟩ := hk
      obtain ⟨rfl, hK1, hK2⟩ := of_decide_eq_true hk
      exact rnds_vi (V := V) (c := ⟨x, p, q, r⟩) (fun _ _ _ _ _ _ _ => rfl) R i n o K ((a1, a2, ()), m) s' ⟨hK1, hK2⟩ hc hr hf2
/-! the loop over balls -/
noncomputable def Lt_vo (V : VM) : LoopT := fun k => bif Nat.beq k 6 then some (loopSum2 L_vi E_vi (fin_vi V)) else none
def hd_vo (c : Cv) (n o : Int) (s : SV) : L_vo.T := (((), (), (), n, o, ()), bsv c s, lsv)
def ex_vo (c : Cv) (s : SV) : Left2 E_vo := ⟨.exit 0, ((), bsv c s, lsv)⟩
def sq (b : TCT cB) : Int := W64 (cellsF b * cellsF b)
def row_vo (V : VM) (c : Cv) (n o : Int) (s : SV) (dead : Bool) : Tree (L_vo.T ⊕ Left2 E_vo) :=
  bif dead then .need (selfL [lk_v]) (.leaf (.inl (hd_vo c n (W64 (o + 1)) s))) else
    .need (selfL [lk_v]) (bif okK (brd c.x) (sq (brd c.x)) 0 && (foldO (stepA V (brd c.x) (plc c.p)) s (roqs (brd c.x) o (sq (brd c.x)))).isSome then
      .need (selfL [lk_v]) (.leaf (.inl (hd_vo c n (W64 (o + 1)) (gs (foldO (stepA V (brd c.x) (plc c.p)) s (roqs (brd c.x) o (sq (brd c.x)))))))) else .fail)
def st_vo (V : VM) (c : Cv) (n o : Int) (s : SV) : Tree (L_vo.T ⊕ Left2 E_vo) :=
  bif decide (o < n) then bif decide (o = ↑(0 : Nat)) then row_vo V c n o s c.q.2.2.2.2.2.1 else bif decide (o = ↑(0 + 1 : Nat)) then row_vo V c n o s c.q.2.2.2.2.2.2.1 else .fail
  else .need (selfL [lk_v]) (.leaf (.inr (ex_vo c s)))
def cvO (g : L_vo.T) : Cv := ⟨g.2.1.1, g.2.1.2.2.2.1, g.2.1.2.2.2.2.2.2.2.1, g.2.1.2.2.2.2.1⟩
def svO (g : L_vo.T) : SV := (g.2.1.2.2.2.2.2.1, g.2.1.2.1.1)
theorem e_vo (V : VM) (g : L_vo.T) : evC Tryz.prog (evFn (X_vi V) 7) (X_vi V).pures 45 (X_vi V).u (Lt_vo V) lb_vo (L_vo.of g) (stepOut2 L_vo E_vo) =
  st_vo V (cvO g) g.1.2.2.2.1 g.1.2.2.2.2.1 (svO g) := by kernel_rfl
def deadI (q : SKTs kP) (i : Nat) : Bool := bif Nat.beq i 0 then q.2.2.2.2.2.1 else q.2.2.2.2.2.2.1
def rowA (b : TCT cB) (q : SKTs kP) (i : Nat) : List (TCT cA) := bif deadI q i then [] else roqs b i (sq b)
def rowsA (b : TCT cB) (q : SKTs kP) (n : Int) : List (TCT cA) := (List.range n.toNat).flatMap fun i => rowA b q i
def okN (b : TCT cB) (n o : Int) : Bool := decide (o = 0 ∧ n ≤ 2) && okK b (sq b) 0
def fin_vo' (V : VM) (c : Cv) (n o : Int) (s : SV) : Tree (Left2 E_vo) :=
  .br (okN (brd c.x) n o && (foldO (stepA V (brd c.x) (plc c.p)) s (rowsA (brd c.x) c.q n)).isSome) (.leaf (ex_vo c (gs (foldO (stepA V (brd c.x) (plc c.p)) s (rowsA (brd c.x) c.q n))))) .fail
noncomputable def fin_vo (V : VM) (g : L_vo.T) : Tree (Left2 E_vo) := fin_vo' V (cvO g) g.1.2.2.2.1 g.1.2.2.2.2.1 (svO g)
theorem row_vo_ok {V : VM} {c : Cv} {n : Int} {i : Nat} {s s' : SV} {Q : L_vo.T ⊕ Left2 E_vo → Prop} (hi : i ≤ 2) (hK : okK (brd c.x) (sq (brd c.x)) 0 = true) (dead : Bool) (hg : foldO (stepA V (brd c.x) (plc c.p)) s (bif dead then [] else roqs (brd c.x) i (sq (brd c.x))) = some s') (hQ : Q (.inl (hd_vo c n ((i + 1 : Nat) : Int) s'))) :
    (row_vo V c n i s dead).sat Q := by
  unfold row_vo
  rw [show W64 ((i : Int) + 1) = ((i + 1 : Nat) : Int) from (W64_id (by omega) (by omega))]
  cases dead with
  | true =>
    cases hg
    exact ⟨selfL_ok _, hQ⟩
  | false =>
    rw [cond_false] at hg
    rw [hK, hg]
    exact ⟨selfL_ok _, selfL_ok _, hQ⟩
theorem rnds_vo {V : VM} {step : L_vo.T → Tree (L_vo.T ⊕ Left2 E_vo)} (hs : ∀ c n o s, step (hd_vo c n o s) = st_vo V c n o s) (R : Left2 E_vo → Prop) (c : Cv) (n : Int) (s s' : SV) (hn : n ≤ 2) (hK : okK (brd c.x) (sq (brd c.x)) 0 = true)
    (hf : foldO (stepA V (brd c.x) (plc c.p)) s (rowsA (brd c.x) c.q n) = some s') (hr : R (ex_vo c s')) : ∃ m, Rnds2 L_vo E_vo step R m (hd_vo c n 0 s) := by
  unfold rowsA at hf
  rw [foldO_flat] at hf
  refine ⟨_, rnds2_foldO (List.range n.toNat) (fun (i : Nat) s => hd_vo c n (i : Int) s) (fun s i => foldO (stepA V (brd c.x) (plc c.p)) s (rowA (brd c.x) c.q i)) (ex_vo c) ?_ ?_ (List.range n.toNat).length 0 s s' (by omega) (by rw [List.drop_zero]; exact hf) hr⟩
  · intro i s1 s2 hi Q _ hg hQ
    rw [List.length_range] at hi
    rw [List.getElem_range] at hg
    rw [hs]
    unfold st_vo
    rw [decide_eq_true (show (i : Int) < n by omega), cond_true]
    unfold rowA at hg
    match i, hi, hg, hQ with
    | 0, _, hg, hQ => exact row_vo_ok (i := 0) (by omega) hK _ hg hQ
    | 1, _, hg, hQ => exact row_vo_ok (i := 1) (by omega) hK _ hg hQ
    | i + 2, hi, _, _ => omega
  · intro s1 Q hQ
    rw [hs]
    unfold st_vo
    rw [List.length_range, decide_eq_false (show ¬ ((n.toNat : Nat) : Int) < n by omega)]
    exact ⟨selfL_ok _, hQ⟩
theorem l_vo {V : VM} (hV : SpecOk Tryz.prog 30 (sp_wo V)) : LoopOk Tryz.prog 45 lb_vo (loopSum2 L_vo E_vo (fin_vo V)) := by
  refine loopOk_of2 (X := X_vi V) (ctxS_ok mixed puSe (fns_cons is_value fns_nil) no_loops (one_spec is_worth.plain hV)) 7 45 (Lt_vo V) ?_ L_vo E_vo (fun _ => Nat.le_refl _) (fin_vo V) (fun g => st_vo V (cvO g) g.1.2.2.2.1 g.1.2.2.2.2.1 (svO g)) (e_vo V) ?_
  · intro d hd f hf
    have hl : loopsOf lb_vo = [lb_vi] := by kernel_rfl
    rw [hl, List.mem_singleton] at hd
    subst hd
    have hk : keyOf lb_vi = 6 := by kernel_rfl
    rw [hk] at hf
    have : Lt_vo V 6 = some (loopSum2 L_vi E_vi (fin_vi V)) := rfl
    rw [this, Option.some.injEq] at hf
    subst hf
    exact l_vi hV
  rintro ⟨⟨⟨⟩, ⟨⟩, ⟨⟩, n, o, ⟨⟩⟩, ⟨x, ⟨m, ⟨⟩⟩, ⟨⟨⟩, ⟨⟩⟩, p, r, ⟨a1, a2, ⟨⟩⟩, ⟨⟨⟩, ⟨⟩⟩, q, ⟨⟩⟩, ⟨⟨⟨⟨⟩, ⟨⟩, ⟨⟩, ⟨⟩, ⟨⟩⟩, ⟨⟩⟩, ⟨⟩⟩⟩ R hw hf
  obtain ⟨hf, h0⟩ := hf
  change (okN (brd x) n o && (foldO (stepA V (brd x) (plc p)) ((a1, a2, ()), m) (rowsA (brd x) q n)).isSome) = true → R (ex_vo ⟨x, p, q, r⟩ (gs (foldO (stepA V (brd x) (plc p)) ((a1, a2, ()), m) (rowsA (brd x) q n)))) at hf
  change (okN (brd x) n o && (foldO (stepA V (brd x) (plc p)) ((a1, a2, ()), m) (rowsA (brd x) q n)).isSome) = false → False at h0
  cases hk : okN (brd x) n o with
  | false => exact (h0 (by rw [hk]; rfl)).elim
  | true =>
    cases hr : foldO (stepA V (brd x) (plc p)) ((a1, a2, ()), m) (rowsA (brd x) q n) with
    | none => exact (h0 (by rw [hk, hr]; rfl)).elim
    | some s' =>
      have hf2 := hf (by rw [hk, hr]; rfl)
      rw [hr] at hf2
      unfold okN at hk
      rw [Bool.and_eq_true_iff] at hk
      obtain ⟨hk, hc⟩ := hk
      obtain ⟨rfl, hn⟩ := of_decide_eq_true hk
      exact rnds_vo (V := V) (c := ⟨x, p, q, r⟩) (fun _ _ _ _ => rfl) R n ((a1, a2, ()), m) s' hn hc hr hf2
end V
end Go.Proofs.YtialgmhhkbdegaaGreat
