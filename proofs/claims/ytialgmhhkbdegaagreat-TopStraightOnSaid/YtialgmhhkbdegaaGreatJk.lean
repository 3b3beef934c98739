/- Best and Plan: their contracts. -/
import Derived.Test.YtialgmhhkbdegaaGreatJj
namespace Go.Proofs.YtialgmhhkbdegaaGreat
open Go.RowKit
namespace V
theorem is_tPlan : FnIs Tryz.prog (9, Tryz.f9) := ⟨Tryz.func9, by kernel_rfl, by kernel_rfl⟩
/-! the best act -/
abbrev Sw : Type := TCT cA × Bool × Int
def wL (b : TCT cB) (p : TCT cP) (a : TCT cA) : Int := vLo (wF (Val b) b p a)
def stW (b : TCT cB) (p : TCT cP) (s : Sw) (a : TCT cA) : Sw := bif !s.2.1 then (a, true, wL b p a) else bif decide (wL b p a > s.2.2) then (a, true, wL b p a) else s
/-- the first of the acts with the greatest Lo -/
def bestW (b : TCT cB) (p : TCT cP) : Sw := (actsF b p).foldl (stW b p) (zA, false, 0)
theorem foldl_cons' {S α : Type} (f : S → α → S) (s : S) (x : α) (l : List α) : (x :: l).foldl f s = l.foldl f (f s x) := rfl
theorem all_b_eq {b : TCT cB} (hb : OkB b) {p : TCT cP} (hp : OkP b p) : ∀ (l : List (TCT cA)) (s : Sw) (m : Memo), (∀ a ∈ l, Legal b p a) → Right b m →
    ∃ m', all_b VX (cb0 b p) l (s.1, s.2.1, s.2.2, m) = some (.inl ((l.foldl (stW b p) s).1, (l.foldl (stW b p) s).2.1, (l.foldl (stW b p) s).2.2, m')) ∧ Right b m'
  | [], s, m, _, hm => ⟨m, rfl, hm⟩
  | a :: l, s, m, hl, hm => by
    obtain ⟨m1, e1, r1⟩ := wM_legal hb hp (hl a (List.mem_cons_self ..)) hm
    obtain ⟨m2, e2, r2⟩ := all_b_eq hb hp l (stW b p s a) m1 (fun x hx => hl x (List.mem_cons_of_mem _ hx)) r1
    refine ⟨m2, ?_, r2⟩
    have ew : wB VX (cb0 b p) (s.1, s.2.1, s.2.2, m) a = some (wF (Val b) b p a, m1) := e1
    have e3 : g_b VX (cb0 b p) (s.1, s.2.1, s.2.2, m) a = some (.inl ((stW b p s a).1, (stW b p s a).2.1, (stW b p s a).2.2, m1)) := by
      unfold g_b stB
      rw [ew]
      have eg : (gv (some (wF (Val b) b p a, m1))).1 = wL b p a := rfl
      rw [eg]
      unfold stW
      show (bif true then _ else _) = _
      rw [cond_true]
      show some (Sum.inl (bif !s.2.1 then (a, true, wL b p a, m1) else bif decide (wL b p a > s.2.2) then (a, true, wL b p a, m1) else (s.1, s.2.1, s.2.2, m1))) = _
      rcases s with ⟨sa, sff, sn⟩
      cases sff <;> cases decide (wL b p a > sn) <;> rfl
    rw [foldl_cons', ← e2]
    show foldX (g_b VX (cb0 b p)) (a :: l) (s.1, s.2.1, s.2.2, m) = _
    unfold foldX
    rw [e3]
    rfl
theorem okN_or {b : TCT cB} (hb : OkB b) {p : TCT cP} (hp : OkP b p) : (p.2.1 == (b.2.2.1.length : Int) || okN b p.2.2.1 0) = true := by
  have : okN b p.2.2.1 0 = true := okN_ok hb hp.n.2
  rw [this, Bool.or_true]
theorem beO_ok {b : TCT cB} (hb : OkB b) {p : TCT cP} (hp : OkP b p) {m : Memo} (hm : Right b m) : ∃ m', beO VX b p m = some ((bestW b p).1, (bestW b p).2.1, m') ∧ Right b m' := by
  obtain ⟨m', e, r⟩ := all_b_eq hb hp (actsF b p) (zA, false, 0) m (fun a ha => legal_of hb hp ha) hm
  refine ⟨m', ?_, r⟩
  unfold beO
  rw [okN_or hb hp, cond_true]
  rw [e]
  rfl
/-- what is known of the best act so far -/
structure Bst (b : TCT cB) (p : TCT cP) (l : List (TCT cA)) (s : Sw) : Prop where
  fo : s.2.1 = true
  me : s.1 ∈ l
  lo : s.2.2 = wL b p s.1
  all : ∀ a ∈ l, wL b p a ≤ s.2.2
theorem bst_fold {b : TCT cB} {p : TCT cP} : ∀ (l k : List (TCT cA)) (s : Sw), Bst b p k s → Bst b p (k ++ l) (l.foldl (stW b p) s)
  | [], k, s, h => by rw [List.append_nil]; exact h
  | a :: l, k, s, h => by
    have e : k ++ a :: l = (k ++ [a]) ++ l := by simp
    rw [e, foldl_cons']
    refine bst_fold l (k ++ [a]) _ ?_
    obtain ⟨h1, h2, h3, h4⟩ := h
    unfold stW
    rw [h1]
    simp only [Bool.not_true, cond_false]
    by_cases hd : wL b p a > s.2.2
    · rw [decide_eq_true hd, cond_true]
      refine ⟨rfl, by simp, rfl, fun x hx => ?_⟩
      rw [List.mem_append, List.mem_singleton] at hx
      rcases hx with hx | rfl
      · have := h4 x hx
        show wL b p x ≤ wL b p a
        omega
      · exact Int.le_refl _
    · rw [decide_eq_false hd, cond_false]
      refine ⟨h1, by simp [h2], h3, fun x hx => ?_⟩
      rw [List.mem_append, List.mem_singleton] at hx
      rcases hx with hx | rfl
      · exact h4 x hx
      · omega
theorem best_facts {b : TCT cB} {p : TCT cP} : (actsF b p = [] ∧ bestW b p = (zA, false, 0)) ∨ Bst b p (actsF b p) (bestW b p) := by
  unfold bestW
  cases ha : actsF b p with
  | nil => exact .inl ⟨rfl, rfl⟩
  | cons a l =>
    right
    have := bst_fold (b := b) (p := p) l [a] (a, true, wL b p a) ⟨rfl, by simp, rfl, fun x hx => by rw [List.mem_singleton] at hx; rw [hx]; exact Int.le_refl _⟩
    exact this
/-! Best -/
def spBe : List (Nat × (Heap → Nat → List AV → Tree (Out × Heap × Nat))) := (19, sp_be VX) :: spEx
theorem spBe_ok : ∀ p ∈ spBe, Plain Tryz.prog p.1 ∧ SpecOk Tryz.prog p.1 p.2 := fun p hp => by
  unfold spBe at hp
  rw [List.mem_cons] at hp
  rcases hp with rfl | hp
  · exact ⟨is_best.plain, sp_be_ok (sp_woN 21)⟩
  · exact spEx_ok p hp
abbrev TBe := Tree (TCTs [cA, cC, cI])
def bad_Be (e : Int) : TBe := .leaf (zA, zC, e, ())
def bO (b : TCT cB) (x : TCT cSc) : BOp := beO VX b (placeF x) no0
def bW2 (b : TCT cB) (x : TCT cSc) : ROp := wM VX b (placeF x) (etaA (ba (bO b x))) (bm (bO b x))
def T_Be (b : TCT cB) (x : TCT cSc) : TBe := bif boardF b != 0 then bad_Be (boardF b) else
  bif placeOk b x then bif (bO b x).isSome then bif bf (bO b x) then
    bif (bW2 b x).isSome then .leaf (etaA (ba (bO b x)), ((gv (bW2 b x)).1, (gv (bW2 b x)).2.1, ()), 0, ()) else .fail
  else .leaf (etaA (ba (bO b x)), zC, 0, ()) else .fail else bad_Be 3
/-- the best act of a scene, and its value -/
def bestA (b : TCT cB) (x : TCT cSc) : TCT cA := bif bOk b && placeOk b x then (bestW b (placeF x)).1 else zA
def bestV (b : TCT cB) (x : TCT cSc) : TCT cC := bif bOk b && (placeOk b x && (bestW b (placeF x)).2.1) then wF (Val b) b (placeF x) (bestW b (placeF x)).1 else zC
abbrev s_Best : PureT := spec [cB, cSc] [cA, cC, cI] (fun _ => true) (fun x => (((bestA x.1 x.2.1).1, (bestA x.1 x.2.1).2.1, (bestA x.1 x.2.1).2.2.1, (bestA x.1 x.2.1).2.2.2.1, ()), ((bestV x.1 x.2.1).1, (bestV x.1 x.2.1).2.1, ()), sceneE x.1 x.2.1, ()))
theorem T_Be_ok (b : TCT cB) (x : TCT cSc) : (T_Be b x).sat (fun y => y = (((bestA b x).1, (bestA b x).2.1, (bestA b x).2.2.1, (bestA b x).2.2.2.1, ()), ((bestV b x).1, (bestV b x).2.1, ()), sceneE b x, ())) := by
  unfold T_Be bestA bestV sceneE
  rw [board0]
  cases hb : bOk b with
  | false =>
    have e : boardF b = 2 := by unfold boardF; rw [hb]; rfl
    rw [e]
    exact rfl
  | true =>
    have hB := okB_of hb
    rw [Bool.not_true, cond_false]
    cases hp : placeOk b x with
    | false => exact rfl
    | true =>
      have hP := place_okP hp
      obtain ⟨m', e, r⟩ := beO_ok hB hP (right_no0 (b := b))
      have e : bO b x = some ((bestW b (placeF x)).1, (bestW b (placeF x)).2.1, m') := e
      unfold bW2
      rw [e]
      show (bif true then bif (bestW b (placeF x)).2.1 then _ else _ else _ : TBe).sat _
      rw [cond_true]
      rcases best_facts (b := b) (p := placeF x) with ⟨_, h⟩ | ⟨h1, h2, _, _⟩
      · rw [h]; exact rfl
      · obtain ⟨m2, e2, _⟩ := wM_legal hB hP (legal_of hB hP h2) r
        have e2 : wM VX b (placeF x) (etaA (ba (some ((bestW b (placeF x)).1, (bestW b (placeF x)).2.1, m')))) (bm (some ((bestW b (placeF x)).1, (bestW b (placeF x)).2.1, m'))) = some (wF (Val b) b (placeF x) (bestW b (placeF x)).1, m2) := e2
        rw [e2, h1]
        exact rfl
/-! Plan -/
noncomputable def lb_pl : Code := (loopsOf (bodyOf Tryz.f9)).getD 0 .skip
def L_pl : Lay := { keys := [4, 5, 6, 7], ks := [.o 52 cA, .p 2 0 0 0, .p 5 0 0 0, .p 6 0 0 0], bs := [(2, 39, [.d cI]), (4, 0, [.m cP cC]), (5, 82, kS4), (6, 66, kP)], n := 32, nx := 1000, marks := [], dc := [(14, 2)] }
def R_pl : Lay := { keys := [4, 5], ks := [.o 52 cA, .p 2 0 0 0], bs := [(2, 39, [.d cI])], n := 32, nx := 1000, marks := [], dc := [(14, 2)] }
def E_pl : XE → Lay := fun _ => R_pl
def hd_pl (e : Int) (x : SKTs kS) (l : List (TCT cA)) (p : TCT cP) (m : Memo) : L_pl.T := ((l, (), (), (), ()), ((e, ()), (m, ()), x, cellsP p, ()))
def rt_pl (l : List (TCT cA)) : Left' E_pl := ⟨.ret, ((l, (), ()), ((0, ()), ()))⟩
noncomputable def X_pl : Ctx := ctxS Tryz.prog plEx [] [] spBe
theorem X_pl_ok : CtxOk X_pl := ctxS_ok mixed puEx fns_nil no_loops spBe_ok
def st_pl (e : Int) (x : SKTs kS) (l : List (TCT cA)) (p : TCT cP) (m : Memo) : Tree (L_pl.T ⊕ Left' E_pl) :=
  bif (beO VX (brd x) p m).isSome then bif !bf (beO VX (brd x) p m) then .leaf (.inr (rt_pl l)) else
    bif appOk l [etaA (ba (beO VX (brd x) p m))] 32 then bif actOk (brd x) p (etaA (ba (beO VX (brd x) p m))) then .leaf (.inl (hd_pl e x (l ++ [etaA (ba (beO VX (brd x) p m))]) (afterF (brd x) p (etaA (ba (beO VX (brd x) p m)))) (bm (beO VX (brd x) p m)))) else .fail else .fail
  else .fail
theorem e_pl (g : L_pl.T) : evC Tryz.prog (evFn X_pl 7) X_pl.pures 9 X_pl.u (fun _ => none) lb_pl (L_pl.of g) (stepOut L_pl E_pl) = st_pl g.2.1.1 g.2.2.2.1 g.1.1 (plc g.2.2.2.2.1) g.2.2.1.1 := by kernel_rfl
def planO (b : TCT cB) : Nat → List (TCT cA) → TCT cP → Memo → Option (List (TCT cA))
  | 0, _, _, _ => none
  | n + 1, l, p, m => bif (beO VX b p m).isSome then bif !bf (beO VX b p m) then some l else
    bif appOk l [etaA (ba (beO VX b p m))] 32 && actOk b p (etaA (ba (beO VX b p m))) then planO b n (l ++ [etaA (ba (beO VX b p m))]) (afterF b p (etaA (ba (beO VX b p m)))) (bm (beO VX b p m)) else none
    else none
def gl (o : Option (List (TCT cA))) : List (TCT cA) := o.getD []
def fin_pl' (x : SKTs kS) (l : List (TCT cA)) (p : TCT cP) (m : Memo) : Tree (Left' E_pl) := .br (planO (brd x) 30 l p m).isSome (.leaf (rt_pl (gl (planO (brd x) 30 l p m)))) .fail
def fin_pl (g : L_pl.T) : Tree (Left' E_pl) := fin_pl' g.2.2.2.1 g.1.1 (plc g.2.2.2.2.1) g.2.2.1.1
theorem rnds_pl {step : L_pl.T → Tree (L_pl.T ⊕ Left' E_pl)} (hs : ∀ e x l p m, step (hd_pl e x l p m) = st_pl e x l p m) (R : Left' E_pl → Prop) (e : Int) (x : SKTs kS) : ∀ (n : Nat) (l : List (TCT cA)) (p : TCT cP) (m : Memo) (l' : List (TCT cA)), planO (brd x) n l p m = some l' → R (rt_pl l') → Rnds L_pl E_pl step R n (hd_pl e x l p m)
  | 0, _, _, _, _, h, _ => nomatch h
  | n + 1, l, p, m, l', h, hr => by
    intro _
    rw [hs]
    unfold planO at h
    unfold st_pl
    cases h1 : (beO VX (brd x) p m).isSome with
    | false => rw [h1] at h; cases h
    | true =>
      rw [h1, cond_true] at h
      rw [cond_true]
      cases h2 : bf (beO VX (brd x) p m) with
      | false =>
        rw [h2] at h
        cases h
        exact fun _ => hr
      | true =>
        rw [h2] at h
        simp only [Bool.not_true, cond_false] at h ⊢
        cases h3 : appOk l [etaA (ba (beO VX (brd x) p m))] 32 with
        | false => rw [h3] at h; cases h
        | true =>
          cases h4 : actOk (brd x) p (etaA (ba (beO VX (brd x) p m))) with
          | false => rw [h3, h4] at h; cases h
          | true =>
            rw [h3, h4] at h
            exact rnds_pl hs R e x n _ _ _ l' h hr
theorem l_pl : LoopOk Tryz.prog 9 lb_pl (loopSum L_pl E_pl fin_pl) := by
  refine loopOk_of (X := X_pl) X_pl_ok 7 9 (fun _ => none) (fun _ _ f h => by simp at h) L_pl E_pl (fun _ => Nat.le_refl _) fin_pl (fun g => st_pl g.2.1.1 g.2.2.2.1 g.1.1 (plc g.2.2.2.2.1) g.2.2.1.1) e_pl ?_
  intro g R _ hf
  obtain ⟨hf, h0⟩ := hf
  cases h : planO (brd g.2.2.2.1) 30 g.1.1 (plc g.2.2.2.2.1) g.2.2.1.1 with
  | none => exact (h0 (by rw [h]; rfl)).elim
  | some l' =>
    have hf2 := hf (by rw [h]; rfl)
    rw [h] at hf2
    have key := rnds_pl (step := fun g => st_pl g.2.1.1 g.2.2.2.1 g.1.1 (plc g.2.2.2.2.1) g.2.2.1.1) (fun _ _ _ _ _ => rfl) R g.2.1.1 g.2.2.2.1 30 g.1.1 (plc g.2.2.2.2.1) g.2.2.1.1 l' h hf2
    exact ⟨30, key⟩
noncomputable def X_Pl : Ctx := ctxS Tryz.prog plEx [(9, Tryz.f9), (15, Tryz.f15), (27, Tryz.f27), (14, Tryz.f14)] [((9, 4), loopSum L_pl E_pl fin_pl)] spBe
abbrev TPl := Tree (TCTs [cAs, cI])
def pO (b : TCT cB) (x : TCT cSc) : Option (List (TCT cA)) := planO b 30 [] (placeF x) no0
def T_Pl (b : TCT cB) (x : TCT cSc) : TPl := bif boardF b != 0 then .leaf ([], boardF b, ()) else
  bif placeOk b x then bif (pO b x).isSome then .leaf (gl (pO b x), 0, ()) else .fail else .leaf ([], 3, ())
theorem T_Pl_eq (y : TCTs [cB, cSc]) : evFn X_Pl 8 (.fn 9) (encAs [cB, cSc] y) noHeap 0 (outK Tryz.prog [cAs, cI]) = T_Pl y.1 y.2.1 := by kernel_rfl
theorem X_Pl_ok : CtxOk X_Pl := ctxS_ok mixed puEx (fns_cons is_tPlan (fns_cons is_open (fns_cons is_must (fns_cons is_catch fns_nil)))) (by
  intro q hq d hd g hg
  change q ∈ [(9, Tryz.f9), (15, Tryz.f15), (27, Tryz.f27), (14, Tryz.f14)] at hq
  simp only [List.mem_cons, List.not_mem_nil, or_false] at hq
  rcases hq with rfl | rfl | rfl | rfl
  · have hl : loopsOf (bodyOf Tryz.f9) = [lb_pl] := by kernel_rfl
    simp only at hd hg
    rw [hl, List.mem_singleton] at hd
    subst hd
    have hk : keyOf lb_pl = 4 := by kernel_rfl
    rw [hk] at hg
    have h2 : some (loopSum L_pl E_pl fin_pl) = some g := hg
    cases h2
    exact l_pl
  · exact nomatch (show (none : Option (St → Tree (XE × St))) = some g from hg)
  · exact nomatch (show (none : Option (St → Tree (XE × St))) = some g from hg)
  · exact nomatch (show (none : Option (St → Tree (XE × St))) = some g from hg)) spBe_ok
/-- a plan: the best act, and a plan from there -/
def planF (b : TCT cB) : Nat → TCT cP → List (TCT cA)
  | 0, _ => []
  | n + 1, p => bif (bestW b p).2.1 then (bestW b p).1 :: planF b n (afterF b p (bestW b p).1) else []
theorem planO_ok {b : TCT cB} (hb : OkB b) : ∀ (n : Nat) (l : List (TCT cA)) (p : TCT cP) (m : Memo), OkP b p → Right b m → mu b p < n → l.length + n ≤ 1000 → planO b n l p m = some (l ++ planF b n p)
  | 0, _, _, _, _, _, h, _ => absurd h (Nat.not_lt_zero _)
  | n + 1, l, p, m, hp, hm, hn, hl => by
    obtain ⟨m', e, r⟩ := beO_ok hb hp hm
    unfold planO planF
    rw [e]
    show (bif true then bif !(bestW b p).2.1 then some l else bif appOk l [(bestW b p).1] 32 && actOk b p (bestW b p).1 then planO b n (l ++ [(bestW b p).1]) (afterF b p (bestW b p).1) m' else none else none) = _
    rw [cond_true]
    rcases best_facts (b := b) (p := p) with ⟨_, h⟩ | ⟨h1, h2, _, _⟩
    · rw [h]
      show some l = some (l ++ [])
      rw [List.append_nil]
    · obtain ⟨k1, k2, k3, _⟩ := legal_step hb hp (legal_of hb hp h2)
      have ha : appOk l [(bestW b p).1] 32 = true := by
        rw [appOk_eq]
        exact decide_eq_true (by rw [List.length_singleton]; omega)
      rw [h1, ha, k1]
      have ih := planO_ok hb n (l ++ [(bestW b p).1]) (afterF b p (bestW b p).1) m' k2 r (by omega) (by rw [List.length_append, List.length_singleton]; omega)
      simp only [Bool.not_true, cond_false, Bool.and_self, cond_true]
      rw [ih, List.append_assoc]
      rfl
def planV (b : TCT cB) (x : TCT cSc) : List (TCT cA) := bif bOk b && placeOk b x then planF b 30 (placeF x) else []
abbrev s_Plan : PureT := spec [cB, cSc] [cAs, cI] (fun _ => true) (fun x => (planV x.1 x.2.1, sceneE x.1 x.2.1, ()))
theorem T_Pl_ok (b : TCT cB) (x : TCT cSc) : (T_Pl b x).sat (fun y => y = (planV b x, sceneE b x, ())) := by
  unfold T_Pl planV sceneE
  rw [board0]
  cases hb : bOk b with
  | false =>
    have e : boardF b = 2 := by unfold boardF; rw [hb]; rfl
    rw [e]
    exact rfl
  | true =>
    have hB := okB_of hb
    rw [Bool.not_true, cond_false]
    cases hp : placeOk b x with
    | false => exact rfl
    | true =>
      have hP := place_okP hp
      have hmu := mu_le hB hP
      have e : pO b x = some ([] ++ planF b 30 (placeF x)) := planO_ok hB 30 [] (placeF x) no0 hP right_no0 (by omega) (by simp)
      rw [e]
      exact rfl
theorem q_Plan : PureOk Tryz.prog 9 s_Plan := q_by X_Pl_ok 8 (fun x => T_Pl x.1 x.2.1) T_Pl_eq fun x _ _ => T_Pl_ok x.1 x.2.1
end V
end Go.Proofs.YtialgmhhkbdegaaGreat
