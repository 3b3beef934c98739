import Derived.Test.YtkiaifmbbnnliaaGreatFc
namespace Go.Proofs.YtkiaifmbbnnliaaGreat
open Go.RowKit
namespace V
namespace St
theorem l_so : LoopOk Tryz.prog 7 lb_so (loopSum L_so E_so (finX [.ret, .exit 0] st_so fu_so)) := loopOk_x X_s00_ok 7 _ Lt_so (fun d hd f hf => by
  have hl : loopsOf lb_so = [lb_si] := by kernel_rfl
  have hk : keyOf lb_si = 17 := by kernel_rfl
  rw [hl, List.mem_singleton] at hd
  subst hd
  rw [hk] at hf
  have e : Lt_so 17 = some (loopSum L_si E_si (finX [.exit 2] st_si fu_si)) := rfl
  rw [e, Option.some.injEq] at hf
  subst hf
  exact l_si) L_so E_so (fun e => by cases e <;> exact Nat.le_refl _) [.ret, .exit 0] st_so fu_so e_so
abbrev FStr7 : Type := TCT cGr → TCT cSt → TCT cBw → TkR
abbrev FTik7 : Type := TCT cGr → TCT cSt → TkR
abbrev FPly7 : Type := TCT cGr → TCT cSt → Int → TkR
abbrev s_StrF7 (F : FStr7) : PureT := spec [cGr, cSt, cBw] [cSt, .sl cKn, cI] (fun x => decide ((x.1.1.1.size : Int) ≤ maxK .i64)) (fun x => etaR (F x.1 x.2.1 x.2.2.1))
abbrev s_TikF7 (F : FTik7) : PureT := spec [cGr, cSt] [cSt, .sl cKn, cI] (fun x => decide ((x.1.1.1.size : Int) ≤ maxK .i64)) (fun x => etaR (F x.1 x.2.1))
abbrev s_PlyF7 (P : FPly7) : PureT := spec [cGr, cSt, cI] [cSt, .sl cKn, cI] (fun x => decide ((x.1.1.1.size : Int) ≤ maxK .i64)) (fun x => etaR (P x.1 x.2.1 x.2.2.1))
noncomputable def plSl7 (F : FStr7) (U : FTik7) (P : FPly7) : List (Nat × PureT) := (15, s_Works) :: (18, s_Same) :: (26, s_Sta) :: (36, s_isSt) :: (16, s_StrF7 F) :: (21, s_TikF7 U) :: (37, s_PlyF7 P) :: []
theorem puSl7 : PuOk Tryz.prog (plSl7 skV TickV PlayV) := puOk_cons is_Works4.plain q_Works4 (puOk_cons is_lSame.plain q_Same (puOk_cons is_rState.plain q_rState (puOk_cons is_rIsStill.plain q_rIsStill (puOk_cons is_sStrike.plain q_Strike4 (puOk_cons is_sTick.plain q_Tick4 (puOk_cons is_sPlay.plain q_Play4 puOk_nil))))))
noncomputable def kE_sl (P : FPly7) (v : R_so.T) : Tree Unit := szT (lwG v.2.1) (bif !v.1.2.2.2.1 then lfU else bif ((v.1.2.2.1 : Kns).length : Int) == 0 then bif (P (grOf v.2.1) v.2.2.1 5).2.2.1 == 0 then bif (((P (grOf v.2.1) v.2.2.1 5).2.1 : Kns).length : Int) == 0 then bif eqC (α := TCT cSt) (etaS (P (grOf v.2.1) v.2.2.1 5).1) v.2.2.1 then lfU else .fail else .fail else .fail else .fail)
noncomputable def kD_sl (P : FPly7) (y : Option (Left' E_so)) : Tree Unit := bif isE .ret y then bif (valE .ret y).1.1 then lfU else .fail else bif isE (.exit 0) y then kE_sl P (valE (.exit 0) y) else .fail
noncomputable def kC_sl (P : FPly7) (g : TCT cGr) (s : TCT cSt) (u : TkR) : Tree Unit := bif u.2.2.1 != 0 then lfU else szT g.1 (bif staE g s != 0 then .fail else bif ((msT u.1).length : Int) != ((msT s).length : Int) then .fail else bif ((osT u.1).length : Int) != ((osT s).length : Int) then .fail else bif u.1.2.2.2.2.1 != W64 (s.2.2.2.2.1 + 1) then .fail else bif u.1.2.2.2.1 != max 0 (W64 (s.2.2.2.1 - 1)) then .fail else bif u.1.2.2.1 != s.2.2.1 then .fail else
  kD_sl P (iter st_so ((msT s).length + 1) (hd_so ⟨grTo g, s, u.1, u.2.1, stillB s⟩ 0)))
noncomputable def kB_sl (U : FTik7) (P : FPly7) (g : TCT cGr) (s : TCT cSt) : Tree Unit := szT g.1 (kC_sl P g s (U g s))
noncomputable def T_sl (F : FStr7) (U : FTik7) (P : FPly7) (g : TCT cGr) (s : TCT cSt) (w : TCT cBw) : Tree Unit := gr_T g s lfU (szT g.1 (bif (F g s w).2.2.1 == 0 then bif Int.tmod w.2.2.1 2 == 0 then kB_sl U P g (etaS (F g s w).1) else kB_sl U P g s else kB_sl U P g s))
end St
open St
abbrev cs_strokeStill : List TC := [cGr, cSt, cBw]
noncomputable def X_strokeStillF (F : FStr7) (U : FTik7) (P : FPly7) : Ctx := ctxL Tryz.prog (plSl7 F U P) [(7, Tryz.f7), (14, Tryz.f14)] [((7, 13), loopSum L_so E_so (finX [.ret, .exit 0] st_so fu_so))]
noncomputable def X_strokeStill : Ctx := X_strokeStillF skV TickV PlayV
theorem X_strokeStill_ok : CtxOk X_strokeStill := ctxL_ok mixed puSl7 (fns_cons is_StrokeStill (fns_cons is_l4great fns_nil)) (loops_cons (loops_in (f := 7) (fn := Tryz.f7) (la := lb_so) (k := 13) (fun d hd hk => by
    have hl : loopsOf (bodyOf Tryz.f7) = [lb_so, lb_si] := by kernel_rfl
    have h17 : keyOf lb_si = 17 := by kernel_rfl
    rw [hl, List.mem_cons, List.mem_singleton] at hd
    rcases hd with rfl | rfl
    · rfl
    · rw [h17] at hk; cases hk) l_so _ (List.mem_singleton.2 rfl)) (loops_cons (loops_none (by kernel_rfl)) loops_nil))
theorem T_sl_eq (F : FStr7) (U : FTik7) (P : FPly7) (y : TCTs cs_strokeStill) : evFn (X_strokeStillF F U P) 8 (.fn 7) (encAs cs_strokeStill y) noHeap 0 lawK = T_sl F U P y.1 y.2.1 y.2.2.1 := by kernel_rfl
namespace St
theorem ptQ_refl (a : TCT cPt) : ptQ a a = true := by unfold ptQ; rw [beq_self_eq_true, beq_self_eq_true]; rfl
theorem moQ_refl (a : TCT cMot) : moQ a a = true := by unfold moQ; rw [ptQ_refl, ptQ_refl, ptQ_refl]; rfl
structure BlOk (q : QS4) (n i : Nat) : Prop where
  ms : (msQ q.s).length = n
  os : (osQ q.s).length = n
  mu : (msQ q.u).length = n
  ou : (osQ q.u).length = n
  hi : i < n
  r1 : oAtQ q.s (i : Int) = true → oAtQ q.u (i : Int) = true ∧ (mAtQ q.u (i : Int)).1 = (mAtQ q.s (i : Int)).1 ∧ q.k.any (tcI (i : Int)) = false
  r2 : restB (mAtQ q.s (i : Int)) = true → q.k.any (tcI (i : Int)) = false → mAtQ q.u (i : Int) = mAtQ q.s (i : Int)
  r3 : q.t = true → mAtQ q.u (i : Int) = mAtQ q.s (i : Int) ∧ oAtQ q.u (i : Int) = oAtQ q.s (i : Int)
theorem inB {β : Type} {n m i : Nat} {k : Tree β} (h : m = n) (hi : i < n) : inN m (i : Int) k = k := inN_ok (by omega)
theorem C_so_ok {q : QS4} {n i : Nat} (h : BlOk q n i) : C_so q (i : Int) = .leaf (.inl (hd_so q (W64 ((i : Int) + 1)))) := by
  unfold C_so
  cases ht : q.t with
  | false => rfl
  | true =>
    obtain ⟨a, b⟩ := h.r3 ht
    rw [cond_true, inB h.mu h.hi, inB h.ms h.hi, a, moQ_refl, inB h.ou h.hi, inB h.os h.hi, b, beq_self_eq_true]
    rfl
theorem B_so_ok {q : QS4} {n i : Nat} (h : BlOk q n i) : B_so q (i : Int) (q.k.any (tcI (i : Int))) = .leaf (.inl (hd_so q (W64 ((i : Int) + 1)))) := by
  unfold B_so
  rw [inB h.ms h.hi, C_so_ok h]
  cases hr : (mAtQ q.s (i : Int)).2.1.1 == 0 && ((mAtQ q.s (i : Int)).2.1.2.1 == 0 && true) with
  | false => rfl
  | true =>
    cases ht : q.k.any (tcI (i : Int)) with
    | true => rfl
    | false =>
      have e := h.r2 (by unfold restB; rw [Bool.and_true] at hr; exact hr) ht
      rw [Bool.not_false, cond_true, cond_true, inB h.mu h.hi, inB h.ms h.hi, e, moQ_refl]
      rfl
theorem A_so_ok {q : QS4} {n i : Nat} (h : BlOk q n i) : A_so q (i : Int) (q.k.any (tcI (i : Int))) = .leaf (.inl (hd_so q (W64 ((i : Int) + 1)))) := by
  unfold A_so
  rw [inB h.os h.hi, B_so_ok h]
  cases ho : oAtQ q.s (i : Int) with
  | false => rfl
  | true =>
    obtain ⟨a, b, c⟩ := h.r1 ho
    rw [cond_true, inB h.ou h.hi, a, inB h.mu h.hi, inB h.ms h.hi, b, ptQ_refl, c]
    rfl
theorem it_so {q : QS4} {n : Nat} (hk : (q.k.length : Int) ≤ maxK .i64) (hn : n ≤ 8) (hl : (msQ q.s).length = n) (h : ∀ i, i < n → BlOk q n i) : iter st_so (n + 1) (hd_so q 0) = some (ex_so q) := by
  have a : iter st_so (n + 1) (hd_so q ((0 : Nat) : Int)) = some (ex_so q) := by
    refine iter_n (S := Unit) (B := Unit) n (fun i _ => hd_so q (i : Int)) (fun _ _ => .inl ()) (fun _ => ex_so q) (fun _ _ => True) (fun i s hi _ => ?_) (fun _ _ _ _ _ _ => trivial) (fun s _ => ?_) n 0 () (by omega) trivial
    · show (st_so' q (i : Int)).run = _
      unfold st_so'
      rw [decide_eq_true (show (i : Int) < ((msQ q.s).length : Int) by omega), cond_true, it_si hk]
      show (A_so q (i : Int) (q.k.any (tcI (i : Int)))).run = _
      rw [A_so_ok (h i hi), W64_id (n := (i : Int) + 1) (by omega) (by omega)]
      rfl
    · show (st_so' q (n : Int)).run = _
      unfold st_so'
      rw [decide_eq_false (show ¬ (n : Int) < ((msQ q.s).length : Int) by omega)]
      rfl
  exact a
theorem still_as {s : TCT cSt} (h : stillB s = true) : AS (msT s) := fun j => by
  unfold stillB at h
  unfold getM
  by_cases hj : j < (msT s).length
  · exact List.all_eq_true.1 h _ (getA_mem hj _)
  · rw [getA_eq, List.getD_eq_getElem?_getD, List.getElem?_eq_none (Nat.le_of_not_lt hj)]; rfl
theorem tick_ok {g : TCT cGr} {s : TCT cSt} (he : (TickV g s).2.2.1 = 0) : ∃ r : S2, StaOk g s ∧ tkF (ctS g s) (msT s, osT s, []) = .inl r ∧ TickV g s = (nxS s r, r.2.2, 0, ()) := by
  unfold TickV at he ⊢
  cases h1 : staE g s != 0 with
  | true => rw [h1] at he; exact absurd he (bne_iff_ne.1 h1)
  | false =>
    rw [h1] at he
    have h := sta_ok (bne_eq_false_iff_eq.1 h1)
    simp only [cond_false] at he ⊢
    unfold tkV at he ⊢
    cases hf : tkF (ctS g s) (msT s, osT s, []) with
    | inr e => rw [hf] at he; exact absurd he (tkF_ne hf)
    | inl r => exact ⟨r, h, rfl, rfl⟩
theorem kC_ok {g : TCT cGr} {s : TCT cSt} (hs : (g.1.1.size : Int) ≤ maxK .i64) : (kC_sl PlayV g s (TickV g s)).sat (fun _ => True) := by
  unfold kC_sl
  cases he : (TickV g s).2.2.1 != 0 with
  | true => exact trivial
  | false =>
    obtain ⟨r, h, hf, hu⟩ := tick_ok (bne_eq_false_iff_eq.1 he)
    have hn8 := h.n8
    have hm := h.m
    have ho := h.o
    have hp := postsV_len (l := g.1)
    have hl := tkF_len (k := ctS g s) hn8 (by show (postsV g.1).length ≤ 1000; omega) hm ho hf
    have hl1 : r.1.length = (ballsG g).length := hl.1
    have hl2 : r.2.1.length = (ballsG g).length := hl.2
    have hkl : r.2.2.length ≤ 200000 := by
      unfold tkF at hf
      cases h0 : (ctS g s).t == 4000 with
      | true => rw [h0] at hf; cases hf
      | false =>
        rw [h0] at hf
        simp only [cond_false] at hf
        cases h1 : foldN (slE (ctS g s).l (osT s) (ctS g s).w (ctS g s).fl) 0 (ctS g s).bl.length (msT s) with
        | inr e => rw [h1] at hf; cases hf
        | inl ms =>
          rw [h1] at hf
          have a : ms.length = (ctS g s).bl.length := foldN_inv (n := (ctS g s).bl.length) (Inv := fun _ (x : Mots) => x.length = (ctS g s).bl.length) (fun i s s' _ hl h => (slE_len h).trans hl) (ctS g s).bl.length 0 _ _ (by omega) hm h1
          have h2 : foldN (tkE (ctS g s)) 0 16 (ms, osT s, []) = .inl r := hf
          have b : Inv2 (ctS g s).bl.length (0 + 16 * 8072) 0 r := foldN_inv (n := 16) (Inv := fun i s2 => Inv2 (ctS g s).bl.length (0 + i * 8072) 0 s2) (fun i s s' hi hs h => tkE_inv (m := 16) hn8 (by show (postsV g.1).length ≤ 1000; omega) i s s' hi hs h) 16 0 (ms, osT s, []) r (by omega) ⟨a, ho, by show ([] : Kns).length ≤ 0 + 0 * 8072 + 0; simp⟩ h2
          have := b.k
          omega
    rw [hu, cond_false, szT_ok hs, sta_ne h, cond_false]
    show Tree.sat _ (bif ((r.1 : Mots).length : Int) != ((msT s).length : Int) then .fail else bif ((r.2.1 : List Bool).length : Int) != ((osT s).length : Int) then .fail else bif W64 (s.2.2.2.2.1 + 1) != W64 (s.2.2.2.2.1 + 1) then .fail else bif max 0 (W64 (s.2.2.2.1 - 1)) != max 0 (W64 (s.2.2.2.1 - 1)) then .fail else bif s.2.2.1 != s.2.2.1 then .fail else kD_sl PlayV (iter st_so ((msT s).length + 1) (hd_so ⟨grTo g, s, nxS s r, r.2.2, stillB s⟩ 0)))
    rw [hl1, hl2, hm, ho]
    simp only [bne_self_eq_false, cond_false]
    rw [it_so (q := ⟨grTo g, s, nxS s r, r.2.2, stillB s⟩) (by show (r.2.2.length : Int) ≤ 9223372036854775807; omega) hn8 hm (fun i hi => ⟨hm, ho, hl1, hl2, hi, fun e => by
        have R : REL i (msT s, osT s, []) r := tkF_rel (k := ctS g s) hn8 hf
        obtain ⟨a, b, c⟩ := R.r1 e
        exact ⟨a, b, c⟩, fun e f => by
        have R : REL i (msT s, osT s, []) r := tkF_rel (k := ctS g s) hn8 hf
        exact (R.r2 e f).1, fun e => by
        have hN : NH (msT s, osT s, []) r := tkF_nh (k := ctS g s) hn8 hf (still_as e) (sta_rq h).2
        refine ⟨hN.m i, ?_⟩
        show getA r.2.1 i (dflt .b) = getA (osT s) i (dflt .b)
        rw [hN.o]⟩)]
    show Tree.sat _ (kE_sl PlayV (((), (), r.2.2, stillB s, ()), (grTo g, s, ())))
    unfold kE_sl
    rw [show szT (lwG (((((), (), r.2.2, stillB s, ()), (grTo g, s, ())) : R_so.T)).2.1) _ = _ from szT_ok (l := g.1) hs]
    cases hst : stillB s with
    | false => exact trivial
    | true =>
      have hN : NH (msT s, osT s, []) r := tkF_nh (k := ctS g s) hn8 hf (still_as hst) (sta_rq h).2
      have hk : r.2.2 = [] := hN.k
      have hpl : PlayV (grOf (grTo g)) s 5 = runS (rnS g 5 s []) := play_of (n := 5) h (by omega)
      rw [rnS_still (by rfl) hst] at hpl
      show Tree.sat _ (bif ((r.2.2 : Kns).length : Int) == 0 then bif (PlayV (grOf (grTo g)) s 5).2.2.1 == 0 then bif (((PlayV (grOf (grTo g)) s 5).2.1 : Kns).length : Int) == 0 then bif eqC (α := TCT cSt) (etaS (PlayV (grOf (grTo g)) s 5).1) s then lfU else .fail else .fail else .fail else .fail)
      rw [hk, hpl]
      have e : etaS (runS (.inl (s, []))).1 = s := rfl
      rw [show eqC (α := TCT cSt) (etaS (runS (.inl (s, []))).1) s = true from eqC_t e]
      exact trivial
theorem sl_all {g : TCT cGr} {s : TCT cSt} {w : TCT cBw} (hs : (g.1.1.size : Int) ≤ maxK .i64) : (T_sl skV TickV PlayV g s w).sat (fun _ => True) := by
  refine gr_T_ok hs trivial fun _ _ => ?_
  have key : ∀ x : TCT cSt, (kB_sl TickV PlayV g x).sat (fun _ => True) := fun x => by
    unfold kB_sl
    rw [szT_ok hs]
    exact kC_ok hs
  rw [szT_ok hs]
  cases (skV g s w).2.2.1 == 0 with
  | false => exact key _
  | true =>
    cases Int.tmod w.2.2.1 2 == 0 with
    | true => exact key _
    | false => exact key _
end St
theorem strokeStill_sat : LawSat2 X_strokeStill 7 cs_strokeStill 8 := lawSat2 8 (fun y => T_sl skV TickV PlayV y.1 y.2.1 y.2.2.1) (T_sl_eq skV TickV PlayV) fun _ _ hs => sl_all hs.1.1.1
end V
end Go.Proofs.YtkiaifmbbnnliaaGreat
