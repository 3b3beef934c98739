import Derived.Test.YtkiaifmbbnnliaaGreatFh
namespace Go.Proofs.YtkiaifmbbnnliaaGreat
open Go.RowKit
namespace V
namespace St
abbrev FStr8 : Type := TCT cGr → TCT cSt → TCT cBw → TkR
abbrev FPly8 : Type := TCT cGr → TCT cSt → Int → TkR
abbrev s_StrF8 (F : FStr8) : PureT := spec [cGr, cSt, cBw] [cSt, .sl cKn, cI] (fun x => decide ((x.1.1.1.size : Int) ≤ maxK .i64)) (fun x => etaR (F x.1 x.2.1 x.2.2.1))
abbrev s_PlyF8 (P : FPly8) : PureT := spec [cGr, cSt, cI] [cSt, .sl cKn, cI] (fun x => decide ((x.1.1.1.size : Int) ≤ maxK .i64)) (fun x => etaR (P x.1 x.2.1 x.2.2.1))
noncomputable def plKn8 (F : FStr8) (P : FPly8) : List (Nat × PureT) := (15, s_Works) :: (16, s_StrF8 F) :: (37, s_PlyF8 P) :: []
theorem puKn8 : PuOk Tryz.prog (plKn8 skV PlayV) := puOk_cons is_Works4.plain q_Works4 (puOk_cons is_sStrike.plain q_Strike4 (puOk_cons is_sPlay.plain q_Play4 puOk_nil))
noncomputable def kF_kn (y : Option (Left' E_k2)) : Tree Unit := bif isE .ret y then bif (valE .ret y).1.1 then lfU else .fail else bif isE (.exit 2) y then lfU else .fail
noncomputable def kE_kn (v : R_k1.T) : Tree Unit := kF_kn (iter st_k2 ((v.1.2.1 : List Bool).length + 1) (hd_k2 v.2.1 v.1.2.1 0))
noncomputable def kD_kn (y : Option (Left' E_k1)) : Tree Unit := bif isE .ret y then bif (valE .ret y).1.1 then lfU else .fail else bif isE (.exit 0) y then kE_kn (valE (.exit 0) y) else .fail
noncomputable def kC_kn (s : TCT cSt) (u : TkR) : Tree Unit := bif u.2.2.1 != 0 then bif ((u.2.1 : Kns).length : Int) == 0 then lfU else .fail else bif ((osT u.1).length : Int) != ((osT s).length : Int) then .fail else acT (osT s) 1 (kD_kn (iter st_k1 ((u.2.1 : Kns).length + 1) (hd_k1 ⟨s, u.1, u.2.1⟩ (osT s) 0)))
noncomputable def kB_kn (P : FPly8) (g : TCT cGr) (s : TCT cSt) (n : Int) : Tree Unit := szT g.1 (kC_kn s (P g s (W64 n)))
noncomputable def T_kn (F : FStr8) (P : FPly8) (g : TCT cGr) (s : TCT cSt) (w : TCT cBw) (n : Int) : Tree Unit := gr_T g s lfU (bif decide (n > 40) then lfU else szT g.1 (bif (F g s w).2.2.1 == 0 then kB_kn P g (etaS (F g s w).1) n else kB_kn P g s n))
end St
open St
abbrev cs_strokeKnocks : List TC := [cGr, cSt, cBw, .i .u8]
noncomputable def X_strokeKnocksF (F : FStr8) (P : FPly8) : Ctx := ctxL Tryz.prog (plKn8 F P) [(8, Tryz.f8), (14, Tryz.f14)] [((8, 13), loopSum L_k1 E_k1 (finX [.ret, .exit 0] st_k1 fu_k1)), ((8, 25), loopSum L_k2 E_k2 (finX [.ret, .exit 2] st_k2 fu_k2))]
noncomputable def X_strokeKnocks : Ctx := X_strokeKnocksF skV PlayV
theorem X_strokeKnocks_ok : CtxOk X_strokeKnocks := ctxL_ok mixed puKn8 (fns_cons is_StrokeKnocks (fns_cons is_l4great fns_nil)) (loops_cons (fun d hd f hf => by
    have hl : loopsOf (bodyOf Tryz.f8) = [lb_k1, lb_k2] := by kernel_rfl
    have h13 : keyOf lb_k1 = 13 := by kernel_rfl
    have h25 : keyOf lb_k2 = 25 := by kernel_rfl
    rw [hl, List.mem_cons, List.mem_singleton] at hd
    rcases hd with rfl | rfl
    · rw [h13] at hf
      exact Option.some.inj hf ▸ l_k1
    · rw [h25] at hf
      exact Option.some.inj hf ▸ l_k2) (loops_cons (loops_none (by kernel_rfl)) loops_nil))
theorem T_kn_eq (F : FStr8) (P : FPly8) (y : TCTs cs_strokeKnocks) : evFn (X_strokeKnocksF F P) 8 (.fn 8) (encAs cs_strokeKnocks y) noHeap 0 lawK = T_kn F P y.1 y.2.1 y.2.2.1 y.2.2.2.1 := by kernel_rfl
namespace St
structure KOk (q : QK) (o : List Bool) (i n : Nat) : Prop where
  lo : o.length = n
  g : GK n o (getK q.k i)
  t1 : q.s.2.2.2.2.1 ≤ (getK q.k i).1
  t2 : (getK q.k i).1 < q.u.2.2.2.2.1
  d : 0 < i → ordK (getK q.k (i - 1)) (getK q.k i)
  hi : i < q.k.length
  hk : q.k.length ≤ 4096
theorem inL1_ok {o : List Bool} {n : Nat} {i : Int} {k : TK1} (h : o.length = n) (h1 : 0 ≤ i) (h2 : i < (n : Int)) : inL1 o i k = k := by
  unfold inL1
  rw [inN_ok (by omega), decide_eq_true (show Int.toNat i < o.length by omega)]
  rfl
theorem nlt_c {β : Type} {a b : Int} {x y : β} (h : b ≤ a) : (bif decide (a < b) then x else y) = y := by rw [decide_eq_false (Int.not_lt.2 h)]; rfl
theorem nle_c {β : Type} {a b : Int} {x y : β} (h : b < a) : (bif decide (a ≤ b) then x else y) = y := by rw [decide_eq_false (Int.not_le.2 h)]; rfl
theorem ngt_c {β : Type} {a b : Int} {x y : β} (h : a ≤ b) : (bif decide (a > b) then x else y) = y := by rw [decide_eq_false (Int.not_lt.2 h)]; rfl
theorem nge_c {β : Type} {a b : Int} {x y : β} (h : a < b) : (bif decide (a ≥ b) then x else y) = y := by rw [decide_eq_false (Int.not_le.2 h)]; rfl
theorem D_k1_ok {q : QK} {o : List Bool} {i n : Nat} (h : KOk q o i n) : D_k1 q o (i : Int) (getK q.k i) = .leaf (.inl (hd_k1 q (nxO o (getK q.k i)) (W64 ((i : Int) + 1)))) := by
  unfold D_k1 nxO
  cases hc : (getK q.k i).2.2.1 == 2 with
  | false => rfl
  | true => rw [cond_true, cond_true, inL1_ok h.lo h.g.b.1 h.g.b.2]
theorem C_k1_ok {q : QK} {o : List Bool} {i n : Nat} (h : KOk q o i n) : C_k1 q o (i : Int) (getK q.k i) = .leaf (.inl (hd_k1 q (nxO o (getK q.k i)) (W64 ((i : Int) + 1)))) := by
  unfold C_k1
  rw [inL1_ok h.lo h.g.b.1 h.g.b.2, show gO4 o (getK q.k i).2.2.2.1 = false from h.g.nb, cond_false, D_k1_ok h]
  cases hc : (getK q.k i).2.2.1 == 0 with
  | false => rfl
  | true =>
    obtain ⟨a, b, c⟩ := h.g.ot (beq_iff_eq.1 hc)
    rw [cond_true, inL1_ok h.lo (Int.le_trans h.g.b.1 (Int.le_of_lt a)) b, show gO4 o (getK q.k i).2.2.2.2.1 = false from c]
    rfl
theorem B_k1_ok {q : QK} {o : List Bool} {i n : Nat} (h : KOk q o i n) : B_k1 q o (i : Int) (getK q.k i) (kAt q.k (W64 ((i : Int) - 1))) = .leaf (.inl (hd_k1 q (nxO o (getK q.k i)) (W64 ((i : Int) + 1)))) := by
  unfold B_k1
  rw [C_k1_ok h]
  have h1 := h.hi
  have h2 := h.hk
  by_cases h0 : 0 < i
  · rw [decide_eq_true (show (i : Int) > 0 by omega), cond_true, W64_id (n := (i : Int) - 1) (by omega) (by omega), inN_ok (by omega), inN_ok (by omega), inN_ok (by omega)]
    have e : kAt q.k ((i : Int) - 1) = getK q.k (i - 1) := by
      unfold kAt getK
      rw [show Int.toNat ((i : Int) - 1) = i - 1 by omega]
    rw [e]
    rcases h.d h0 with d | ⟨d, d2⟩
    · rw [nlt_c (Int.le_of_lt d), show ((getK q.k i).1 == (getK q.k (i - 1)).1) = false from beq_eq_false_iff_ne.2 (fun e => absurd d (e ▸ Int.lt_irrefl _))]
      rfl
    · rw [nlt_c (Int.le_of_eq d), nlt_c d2]
      cases (getK q.k i).1 == (getK q.k (i - 1)).1 <;> rfl
  · rw [decide_eq_false (show ¬ (i : Int) > 0 by omega)]
    rfl
theorem A_k1_ok {q : QK} {o : List Bool} {i n : Nat} (h : KOk q o i n) : A_k1 q o (i : Int) (getK q.k i) (kAt q.k (W64 ((i : Int) - 1))) = .leaf (.inl (hd_k1 q (nxO o (getK q.k i)) (W64 ((i : Int) + 1)))) := by
  have a2 : A2_k1 q o (i : Int) (getK q.k i) (kAt q.k (W64 ((i : Int) - 1))) = .leaf (.inl (hd_k1 q (nxO o (getK q.k i)) (W64 ((i : Int) + 1)))) := by
    unfold A2_k1
    rw [nlt_c h.t1, nge_c h.t2, nlt_c h.g.st.1, ngt_c h.g.st.2, B_k1_ok h]
  unfold A_k1
  rw [a2, h.lo, nlt_c h.g.b.1, nge_c h.g.b.2, nlt_c h.g.k.1, ngt_c h.g.k.2]
  cases hc : (getK q.k i).2.2.1 == 0 with
  | false => rfl
  | true =>
    obtain ⟨a, b, _⟩ := h.g.ot (beq_iff_eq.1 hc)
    rw [cond_true, nle_c a, nge_c b]
theorem it_k1 {q : QK} {o0 : List Bool} {n : Nat} (hk : q.k.length ≤ 4096) (h : ∀ i, i < q.k.length → KOk q (rpO o0 (q.k.take i)) i n) : iter st_k1 (q.k.length + 1) (hd_k1 q o0 0) = some (ex_k1 q (rpO o0 q.k)) := by
  have a : iter st_k1 (q.k.length + 1) (hd_k1 q (rpO o0 (q.k.take 0)) ((0 : Nat) : Int)) = some (ex_k1 q (rpO o0 q.k)) := by
    refine iter_n (S := Unit) (B := Unit) q.k.length (fun i _ => hd_k1 q (rpO o0 (q.k.take i)) (i : Int)) (fun _ _ => .inl ()) (fun _ => ex_k1 q (rpO o0 q.k)) (fun _ _ => True) (fun i s hi _ => ?_) (fun _ _ _ _ _ _ => trivial) (fun s _ => ?_) q.k.length 0 () (by omega) trivial
    · show (st_k1' q (rpO o0 (q.k.take i)) (i : Int)).run = _
      unfold st_k1'
      rw [decide_eq_true (show (i : Int) < (q.k.length : Int) by omega), cond_true, inN_ok (by omega), show kAt q.k (i : Int) = getK q.k i from rfl, A_k1_ok (h i hi), W64_id (n := (i : Int) + 1) (by omega) (by omega)]
      have e : rpO o0 (q.k.take (i + 1)) = nxO (rpO o0 (q.k.take i)) (getK q.k i) := by
        unfold rpO
        rw [List.take_add_one, List.getElem?_eq_getElem hi, Option.toList_some, List.foldl_append]
        show nxO _ _ = nxO _ _
        unfold getK
        rw [getA_eq, List.getD_eq_getElem?_getD, List.getElem?_eq_getElem hi]
        rfl
      show some (Sum.inl (hd_k1 q (nxO (rpO o0 (q.k.take i)) (getK q.k i)) ((i : Int) + 1))) = some (Sum.inl (hd_k1 q (rpO o0 (q.k.take (i + 1))) ((i + 1 : Nat) : Int)))
      rw [e]
      rfl
    · show (st_k1' q (rpO o0 (q.k.take q.k.length)) (q.k.length : Int)).run = _
      unfold st_k1'
      rw [decide_eq_false (show ¬ (q.k.length : Int) < (q.k.length : Int) by omega), List.take_length]
      rfl
  exact a
theorem it_k2 {u : SKTs kSt} {o : List Bool} (ho : o = (u.2.1 : List Bool)) (hl : o.length ≤ 1000) : iter st_k2 (o.length + 1) (hd_k2 u o 0) = some ex_k2 := by
  have a : iter st_k2 (o.length + 1) (hd_k2 u o ((0 : Nat) : Int)) = some ex_k2 := by
    refine iter_n (S := Unit) (B := Unit) o.length (fun i _ => hd_k2 u o (i : Int)) (fun _ _ => .inl ()) (fun _ => ex_k2) (fun _ _ => True) (fun i s hi _ => ?_) (fun _ _ _ _ _ _ => trivial) (fun s _ => ?_) o.length 0 () (by omega) trivial
    · show (st_k2' u o (i : Int)).run = _
      unfold st_k2'
      rw [decide_eq_true (show (i : Int) < (o.length : Int) by omega), cond_true, inN_ok (by omega), decide_eq_true (show Int.toNat (i : Int) < o.length by omega), cond_true, ← ho, inN_ok (by omega), beq_self_eq_true, W64_id (n := (i : Int) + 1) (by omega) (by omega)]
      rfl
    · show (st_k2' u o (o.length : Int)).run = _
      unfold st_k2'
      rw [decide_eq_false (show ¬ (o.length : Int) < (o.length : Int) by omega)]
      rfl
  exact a
theorem nxO_len {o : List Bool} {x : TCT cKn} : (nxO o x).length = o.length := by
  unfold nxO
  cases x.2.2.1 == 2 with
  | false => rfl
  | true => exact setA_len _ _ _
theorem rpO_len : ∀ (ks : Kns) (o : List Bool), (rpO o ks).length = o.length
  | [], _ => rfl
  | x :: ks, o => (rpO_len ks (nxO o x)).trans nxO_len
theorem KV.zero {n : Nat} {o : List Bool} {T : Int} : KV n o T T 0 [] o :=
  ⟨rfl, fun _ h => absurd h (Nat.not_lt_zero _), fun _ h => absurd h (Nat.not_lt_zero _), fun _ h => absurd h (Nat.not_lt_zero _)⟩
theorem kC_kn_ok {g : TCT cGr} {s : TCT cSt} {n : Nat} (hn : n ≤ 40) : (kC_kn s (PlayV g s (n : Int))).sat (fun _ => True) := by
  unfold kC_kn
  cases he : staE g s != 0 with
  | true =>
    rw [play_bad he, show ((errT (staE g s)).2.2.1 != 0) = true from he]
    exact trivial
  | false =>
    have h := sta_ok (bne_eq_false_iff_eq.1 he)
    rw [play_of h (by omega)]
    cases hP : rnS g n s [] with
    | inr e =>
      rw [show ((runS (.inr e)).2.2.1 != 0) = true from bne_iff_ne.2 (rnS_ne _ _ _ _ hP)]
      exact trivial
    | inl r =>
      obtain ⟨h1, hk1⟩ := rnS_sta n s [] r h hP
      have kv := rnS_kv (o0 := osT s) (T0 := s.2.2.2.2.1) n s [] r h (Int.le_refl _) KV.zero hP
      have hn8 := h.n8
      have ho := h.o
      have ho1 : (osT r.1).length = (ballsG g).length := h1.o
      show Tree.sat _ (bif ((osT r.1).length : Int) != ((osT s).length : Int) then .fail else acT (osT s) 1 (kD_kn (iter st_k1 (r.2.length + 1) (hd_k1 ⟨s, r.1, r.2⟩ (osT s) 0))))
      rw [ho1, ho, bne_self_eq_false, cond_false, acT_ok (by omega) (by decide)]
      rw [it_k1 (q := ⟨s, r.1, r.2⟩) (o0 := osT s) (n := (ballsG g).length) hk1 (fun i hi => ⟨(rpO_len _ _).trans ho, kv.g i hi, (kv.l i hi).1, by
        rcases (kv.l i hi).2 with a | ⟨_, a⟩
        · exact a
        · exact absurd (Int.le_trans (kv.g i hi).st.1 a) (by decide), fun h0 => by
        have := kv.d (i - 1) (by show i - 1 + 1 < r.2.length; have : i < r.2.length := hi; omega)
        rw [show i - 1 + 1 = i by omega] at this
        exact this, hi, hk1⟩)]
      show Tree.sat _ (kE_kn (((), rpO (osT s) r.2, ()), (r.1, ())))
      rw [kv.e]
      unfold kE_kn
      rw [it_k2 (u := r.1) (o := osT r.1) rfl (by omega)]
      exact trivial
theorem kn_all {g : TCT cGr} {s : TCT cSt} {w : TCT cBw} {n : Int} (hs : (g.1.1.size : Int) ≤ maxK .i64) (h1 : 0 ≤ n ∧ n ≤ 255) : (T_kn skV PlayV g s w n).sat (fun _ => True) := by
  refine gr_T_ok hs trivial fun _ _ => ?_
  cases d1 : decide (n > 40) with
  | true => exact trivial
  | false =>
    have a1 := of_decide_eq_false d1
    simp only [cond_false]
    rw [szT_ok hs]
    obtain ⟨n', rfl⟩ := Int.eq_ofNat_of_zero_le h1.1
    have key : ∀ x : TCT cSt, (kB_kn PlayV g x (n' : Int)).sat (fun _ => True) := fun x => by
      unfold kB_kn
      rw [szT_ok hs, W64_id (n := (n' : Int)) (by omega) (by omega)]
      exact kC_kn_ok (by omega)
    cases (skV g s w).2.2.1 == 0 with
    | true => exact key _
    | false => exact key _
end St
theorem strokeKnocks_sat : LawSat2 X_strokeKnocks 8 cs_strokeKnocks 8 := lawSat2 8 (fun y => T_kn skV PlayV y.1 y.2.1 y.2.2.1 y.2.2.2.1) (T_kn_eq skV PlayV) fun _ hw hs => kn_all hs.1.1.1 hw.2.2.2.1
end V
end Go.Proofs.YtkiaifmbbnnliaaGreat
