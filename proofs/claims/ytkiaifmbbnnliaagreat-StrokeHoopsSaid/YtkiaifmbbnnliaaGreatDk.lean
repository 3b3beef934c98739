import Derived.Test.YtkiaifmbbnnliaaGreatDj
namespace Go.Proofs.YtkiaifmbbnnliaaGreat
open Go.RowKit
namespace V
namespace St
theorem is_StrokeHoops : FnIs Tryz.prog (11, Tryz.f11) := ⟨Tryz.func11, by kernel_rfl, by kernel_rfl⟩
abbrev FRun4 : Type := TCT cLawn → Int → Bool → Int → Trk → RuR
abbrev s_RunF4 (F : FRun4) : PureT := spec [cLawn, cI, .b, cI, .sl cPt] [.b, cI] (fun x => decide ((x.1.1.size : Int) ≤ maxK .i64)) (fun x => etaRu (F x.1 x.2.1 x.2.2.1 x.2.2.2.1 x.2.2.2.2.1))
noncomputable def plHp (G : FRun4) : List (Nat × PureT) := (15, s_Works) :: (42, s_law) :: (43, s_RunF4 G) :: []
theorem puHp : PuOk Tryz.prog (plHp runV) := puOk_cons is_Works4.plain q_Works4 (puOk_cons is_rLaw.plain q_rLaw (puOk_cons is_sRuns.plain q_Runs puOk_nil))
noncomputable def lb_hp : Code := (loopsOf (bodyOf Tryz.f11)).getD 0 .skip
def L_hp : Lay := { keys := [2, 4, 9, 10, 11, 12, 13, 14], ks := [.d cI, .p 0 0 0 0, .d cI, .p 1 0 0 0, .d cI, .d cI, .o 24 cPt, .d cI], bs := [(0, 29, kLw), (1, 80, kHo)], n := 161, nx := 1000, marks := [] }
def R_hp : Lay := { keys := [2, 4, 9, 13], ks := [.d cI, .p 0 0 0 0, .d cI, .o 24 cPt], bs := [(0, 29, kLw)], n := 161, nx := 1000, marks := [] }
def E_hp : XE → Lay := fun _ => R_hp
abbrev THp := Tree (L_hp.T ⊕ Left' E_hp)
def hd_hp (x : SKTs kLw) (h : TCT cHoop) (r n st long : Int) (t : Trk) (u : Int) : L_hp.T := ((r, (), n, (), st, long, t, u, ()), (x, h, ()))
def ex_hp (x : SKTs kLw) (r n : Int) (t : Trk) : Left' E_hp := ⟨.exit 0, ((r, (), n, t, ()), (x, ()))⟩
def go_hp (x : SKTs kLw) (h : TCT cHoop) (r n st long : Int) (t : Trk) (u : Int) (p : TCT cPt) : THp := bif appOk t [p] 16 then bif decide (u > long) then .leaf (.inr (ex_hp x r n (t ++ [p]))) else .leaf (.inl (hd_hp x h r n st long (t ++ [p]) (W64 (u + st)))) else .fail
def st_hp' (x : SKTs kLw) (h : TCT cHoop) (r n st long : Int) (t : Trk) (u : Int) : THp := bif h.2.2.2.2.1 then go_hp x h r n st long t u (W64 (h.1 + u), h.2.1, ()) else go_hp x h r n st long t u (h.1, W64 (h.2.1 + u), ())
def st_hp (g : L_hp.T) : THp := st_hp' g.2.1 g.2.2.1 g.1.1 g.1.2.2.1 g.1.2.2.2.2.1 g.1.2.2.2.2.2.1 g.1.2.2.2.2.2.2.1 g.1.2.2.2.2.2.2.2.1
def fu_hp (_ : L_hp.T) : Nat := 100
theorem l_hp : LoopOk Tryz.prog 11 lb_hp (loopSum L_hp E_hp (finX [.exit 0] st_hp fu_hp)) := loopOk_x0 (X := ctx Tryz.prog [] []) (ctx_ok mixed puOk_nil fns_nil) 7 _ L_hp E_hp (fun _ => Nat.le_refl _) [.exit 0] st_hp fu_hp (fun g => by kernel_rfl)
theorem go_hp_eq {x : SKTs kLw} {h : TCT cHoop} {r n st long : Int} {t : Trk} {u : Int} (ht : t.length ≤ 1000) : st_hp' x h r n st long t u = bif decide (u > long) then .leaf (.inr (ex_hp x r n (t ++ [ptH h u]))) else .leaf (.inl (hd_hp x h r n st long (t ++ [ptH h u]) (W64 (u + st)))) := by
  unfold st_hp' go_hp ptH
  cases h.2.2.2.2.1 with
  | true => simp only [cond_true]; rw [app_ok (by simp; omega) (by decide)]; rfl
  | false => simp only [cond_false]; rw [app_ok (by simp; omega) (by decide)]; rfl
theorem iter_le {G E : Type} {st : G → Tree (G ⊕ E)} {n : Nat} {g : G} {e : E} (h : iter st n g = some e) : ∀ {m : Nat}, n ≤ m → iter st m g = some e := by
  intro m hm
  induction hm with
  | refl => exact h
  | step _ ih => exact iter_more _ _ _ ih
theorem tr_step {wr r st : Int} {K : Nat} (k : TrOk wr r st K) {i : Nat} (hi : i < K) : (i : Int) * st + st ≤ (K : Int) * st ∧ 0 ≤ (i : Int) * st ∧ (i : Int) * st ≤ 2 * (wr + r + 1) := by
  have h1 := k.s
  have h2 := k.lo
  have a := mul_mono (a := (i : Int) + 1) (b := (K : Int)) (c := st) (by omega) (by omega)
  rw [Int.add_mul, Int.one_mul] at a
  have b := Int.mul_nonneg (show (0 : Int) ≤ (i : Int) by omega) (show 0 ≤ st by omega)
  omega
theorem it_hp {x : SKTs kLw} {h : TCT cHoop} {r n st wr : Int} {K : Nat} (k : TrOk wr r st K) : iter st_hp 100 (hd_hp x h r n st (wr + r + 1) [] (0 - (wr + r + 1))) = some (ex_hp x r n (trkN h (0 - (wr + r + 1)) st (K + 1))) := by
  have hK := k.n
  have q1 := k.hw
  have q2 := k.hr
  have q3 := k.s
  have q4 := k.hi
  have a : iter st_hp (K + 1) (hd_hp x h r n st (wr + r + 1) (trkN h (0 - (wr + r + 1)) st 0) (0 - (wr + r + 1) + ((0 : Nat) : Int) * st)) = some (ex_hp x r n (trkN h (0 - (wr + r + 1)) st (K + 1))) := by
    refine iter_n (S := Unit) (B := Unit) K (fun i _ => hd_hp x h r n st (wr + r + 1) (trkN h (0 - (wr + r + 1)) st i) (0 - (wr + r + 1) + (i : Int) * st)) (fun _ _ => .inl ()) (fun _ => ex_hp x r n (trkN h (0 - (wr + r + 1)) st (K + 1))) (fun _ _ => True) (fun i s hi _ => ?_) (fun _ _ _ _ _ _ => trivial) (fun s _ => ?_) K 0 () (by omega) trivial
    · show (st_hp' x h r n st (wr + r + 1) (trkN h (0 - (wr + r + 1)) st i) (0 - (wr + r + 1) + (i : Int) * st)).run = _
      obtain ⟨t1, t2, t3⟩ := tr_step k hi
      rw [go_hp_eq (by rw [trkN_len]; omega), decide_eq_false (show ¬ 0 - (wr + r + 1) + (i : Int) * st > wr + r + 1 by omega), W64_id (n := 0 - (wr + r + 1) + (i : Int) * st + st) (by omega) (by omega), ← trkN_succ, show 0 - (wr + r + 1) + (i : Int) * st + st = 0 - (wr + r + 1) + ((i + 1 : Nat) : Int) * st by
        rw [show ((i + 1 : Nat) : Int) = (i : Int) + 1 by omega, Int.add_mul, Int.one_mul]; omega]
      rfl
    · show (st_hp' x h r n st (wr + r + 1) (trkN h (0 - (wr + r + 1)) st K) (0 - (wr + r + 1) + (K : Int) * st)).run = _
      rw [go_hp_eq (by rw [trkN_len]; omega), decide_eq_true (show 0 - (wr + r + 1) + (K : Int) * st > wr + r + 1 by omega), ← trkN_succ]
      rfl
  rw [show 0 - (wr + r + 1) + ((0 : Nat) : Int) * st = 0 - (wr + r + 1) by simp] at a
  exact iter_le a (by omega)
def lwK (x : SKTs kLw) : TCT cLawn := (x.1, x.2.1, x.2.2.1, x.2.2.2.1, x.2.2.2.2.1, ((x.2.2.2.2.2.1, x.2.2.2.2.2.2.1, ()), x.2.2.2.2.2.2.2.1, ()), x.2.2.2.2.2.2.2.2.1, x.2.2.2.2.2.2.2.2.2.1, x.2.2.2.2.2.2.2.2.2.2.1, ())
def kb_hp (a b : RuR) : Tree Unit := bif a.2.1 != 0 then bif a.2.1 == 2 then bif b.2.1 == 2 then lfU else .fail else .fail else bif b.2.1 != 0 then bif a.2.1 == 2 then bif b.2.1 == 2 then lfU else .fail else .fail else bif a.1 then bif !b.1 then lfU else .fail else .fail
def k5_hp (G : FRun4) (v : R_hp.T) : Tree Unit := szT (lwK v.2.1) (szT (lwK v.2.1) (kb_hp (G (lwK v.2.1) v.1.2.2.1 true v.1.1 v.1.2.2.2.1) (G (lwK v.2.1) v.1.2.2.1 false v.1.1 v.1.2.2.2.1)))
def k4_hp (G : FRun4) (y : Option (Left' E_hp)) : Tree Unit := bif isE (.exit 0) y then k5_hp G (valE (.exit 0) y) else .fail
def loH (h : TCT cHoop) (r : Int) : Int := W64 (W64 (h.2.2.2.1 + r) + 1)
def k3_hp (G : FRun4) (l : TCT cLawn) (n r s : Int) : Tree Unit := bif decide (s ≥ W64 (2 * r)) then lfU else k4_hp G (iter st_hp 100 (hd_hp (lwTo l) (hoopV l n) r n s (loH (hoopV l n) r) [] (W64 (0 - loH (hoopV l n) r))))
def k2_hp (G : FRun4) (l : TCT cLawn) (n r b : Int) : Tree Unit := bif b != 0 then bif decide (W64 (Int.tdiv (W64 (2 * loH (hoopV l n) r)) b) > 90) then k3_hp G l n r (W64 (W64 (Int.tdiv (W64 (2 * loH (hoopV l n) r)) 90) + 1)) else k3_hp G l n r b else .fail
def k1_hp (G : FRun4) (l : TCT cLawn) (n r b : Int) : Tree Unit := bif W64 (2 * r) != 0 then bif b == W64 (2 * r) then k2_hp G l n r (max (W64 (b - 1)) 1) else k2_hp G l n r (max b 1) else .fail
def k0_hp (G : FRun4) (l : TCT cLawn) (n r sp : Int) : Tree Unit := bif ((hoopsL l).length : Int) != 0 then bif decide (0 ≤ n ∧ n < ((hoopsL l).length : Int)) then k1_hp G l n r (W64 (1 + Int.tmod (W64 sp) (W64 (2 * r)))) else .fail else .fail
def T_hp (G : FRun4) (l : TCT cLawn) (hp r sp : Int) : Tree Unit := bif inKB .i64 (l.1.size : Int) then bif decide ((l.1.size : Int) > 100) then lfU else bif decide (((hoopsL l).length : Int) > 20) then lfU else bif decide (((cellsL l).length : Int) > 300) then lfU else
  szT l (bif lawE l != 0 then lfU else bif decide (r < 1) then lfU else bif decide (r > 16384) then lfU else k0_hp G l (Int.tmod (W64 hp) ((hoopsL l).length : Int)) r sp) else .fail
theorem kb_ok {a b : RuR} (h : (a = (false, 2, ()) ∧ b = (false, 2, ())) ∨ (a = (true, 0, ()) ∧ b = (false, 0, ()))) : (kb_hp a b).sat (fun _ => True) := by
  rcases h with ⟨rfl, rfl⟩ | ⟨rfl, rfl⟩ <;> exact trivial
theorem lwK_to (l : TCT cLawn) : lwK (lwTo l) = l := rfl
theorem lo_eq {wr r : Int} (hw : 1 ≤ wr ∧ wr ≤ 8192) (hr : 1 ≤ r ∧ r ≤ 16384) : W64 (W64 (wr + r) + 1) = wr + r + 1 := by
  rw [W64_id (n := wr + r) (by omega) (by omega), W64_id (by omega) (by omega)]
theorem k3_ok {l : TCT cLawn} {n r b : Int} (hl : lawE l = 0) (hs : (l.1.size : Int) ≤ maxK .i64) (hn : 0 ≤ n ∧ n < ((hoopsL l).length : Int)) (hr : 1 ≤ r ∧ r ≤ 16384) (hb : 1 ≤ b) {s : Int} (he : s = byS (2 * ((hoopV l n).2.2.2.1 + r + 1)) b) : (k3_hp runV l n r s).sat (fun _ => True) := by
  subst he
  have ho := hoop_in hl hn
  have e1 : loH (hoopV l n) r = (hoopV l n).2.2.2.1 + r + 1 := lo_eq ho.w hr
  unfold k3_hp
  rw [e1]
  have h2 : W64 (2 * r) = 2 * r := W64_id (by omega) (by omega)
  have h3 : ∀ wr : Int, 1 ≤ wr ∧ wr ≤ 8192 → W64 (0 - (wr + r + 1)) = 0 - (wr + r + 1) := fun wr hw => W64_id (by omega) (by omega)
  rw [h2, h3 _ ho.w]
  cases hd : decide (byS (2 * ((hoopV l n).2.2.2.1 + r + 1)) b ≥ 2 * r) with
  | true => exact trivial
  | false =>
    have hlt := of_decide_eq_false hd
    have k := by_ok ho.w hr hb (Int.not_le.1 hlt)
    simp only [cond_false]
    rw [it_hp k]
    show Tree.sat _ (k5_hp runV ((r, (), n, _, ()), (lwTo l, ())))
    unfold k5_hp
    rw [lwK_to, szT_ok hs, szT_ok hs]
    exact kb_ok (hoops_both hl hn k)
theorem k2_ok {l : TCT cLawn} {n r b : Int} (hl : lawE l = 0) (hs : (l.1.size : Int) ≤ maxK .i64) (hn : 0 ≤ n ∧ n < ((hoopsL l).length : Int)) (hr : 1 ≤ r ∧ r ≤ 16384) (hb : 1 ≤ b) : (k2_hp runV l n r b).sat (fun _ => True) := by
  have ho := hoop_in hl hn
  have e1 : loH (hoopV l n) r = (hoopV l n).2.2.2.1 + r + 1 := lo_eq ho.w hr
  have key : ∀ wr : Int, 1 ≤ wr ∧ wr ≤ 8192 → W64 (2 * (wr + r + 1)) = 2 * (wr + r + 1) ∧ W64 (Int.tdiv (2 * (wr + r + 1)) b) = Int.tdiv (2 * (wr + r + 1)) b ∧ W64 (W64 (Int.tdiv (2 * (wr + r + 1)) 90) + 1) = Int.tdiv (2 * (wr + r + 1)) 90 + 1 := by
    intro wr hw
    have c : 0 ≤ 2 * (wr + r + 1) ∧ 2 * (wr + r + 1) ≤ 49154 := by omega
    generalize 2 * (wr + r + 1) = L at c
    rw [Int.tdiv_eq_ediv_of_nonneg c.1, Int.tdiv_eq_ediv_of_nonneg c.1]
    have a1 := Int.ediv_nonneg c.1 (show 0 ≤ b by omega)
    have a2 := Int.ediv_le_self b c.1
    refine ⟨W64_id (by omega) (by omega), W64_id (by omega) (by omega), ?_⟩
    rw [W64_id (n := L / 90) (by omega) (by omega), W64_id (by omega) (by omega)]
  obtain ⟨f1, f2, f3⟩ := key _ ho.w
  unfold k2_hp
  rw [e1, f1, f2, f3, show (b != 0) = true from bne_iff_ne.2 (by omega), cond_true]
  cases hd : decide (Int.tdiv (2 * ((hoopV l n).2.2.2.1 + r + 1)) b > 90) with
  | true => exact k3_ok hl hs hn hr hb (by unfold byS; rw [hd]; rfl)
  | false => exact k3_ok hl hs hn hr hb (by unfold byS; rw [hd]; rfl)
theorem k0_ok {l : TCT cLawn} {hp r sp : Int} (hl : lawE l = 0) (hs : (l.1.size : Int) ≤ maxK .i64) (hh : 0 ≤ hp ∧ hp ≤ 255) (hr : 1 ≤ r ∧ r ≤ 16384) : (k0_hp runV l (Int.tmod (W64 hp) ((hoopsL l).length : Int)) r sp).sat (fun _ => True) := by
  have hn := (law_ok hl).hn
  have n1 := hn.1
  rw [W64_id (n := hp) (by omega) (by omega), Int.tmod_eq_emod_of_nonneg hh.1]
  have m1 := Int.emod_nonneg hp (show ((hoopsL l).length : Int) ≠ 0 by omega)
  have m2 := Int.emod_lt_of_pos hp (show 0 < ((hoopsL l).length : Int) by omega)
  unfold k0_hp k1_hp
  rw [show ((((hoopsL l).length : Int)) != 0) = true from bne_iff_ne.2 (by omega), decide_eq_true (show 0 ≤ hp % ((hoopsL l).length : Int) ∧ hp % ((hoopsL l).length : Int) < ((hoopsL l).length : Int) from ⟨m1, m2⟩), show (W64 (2 * r) != 0) = true by
    rw [W64_id (n := 2 * r) (by omega) (by omega)]; exact bne_iff_ne.2 (by omega)]
  simp only [cond_true]
  cases W64 (1 + Int.tmod (W64 sp) (W64 (2 * r))) == W64 (2 * r) with
  | true => exact k2_ok hl hs ⟨m1, m2⟩ hr (Int.le_max_right _ _)
  | false => exact k2_ok hl hs ⟨m1, m2⟩ hr (Int.le_max_right _ _)
theorem bif_sat5 {b : Bool} {t u : Tree Unit} {R : Unit → Prop} (h1 : t.sat R) (h2 : b = false → u.sat R) : (bif b then t else u : Tree Unit).sat R := by
  cases b with
  | false => exact h2 rfl
  | true => exact h1
theorem hp_all {l : TCT cLawn} {hp r sp : Int} (hs : (l.1.size : Int) ≤ maxK .i64) (hh : 0 ≤ hp ∧ hp ≤ 255) : (T_hp runV l hp r sp).sat (fun _ => True) := by
  unfold T_hp
  have h0 : inKB .i64 (l.1.size : Int) = true := by
    unfold inKB
    have : (l.1.size : Int) ≤ 9223372036854775807 := hs
    simp only [Bool.and_eq_true, decide_eq_true_eq]
    exact ⟨by show (-9223372036854775808 : Int) ≤ _; omega, hs⟩
  rw [h0, cond_true]
  refine bif_sat5 trivial fun _ => bif_sat5 trivial fun _ => bif_sat5 trivial fun _ => ?_
  rw [szT_ok hs]
  refine bif_sat5 trivial fun h1 => bif_sat5 trivial fun h2 => bif_sat5 trivial fun h3 => ?_
  have r1 := of_decide_eq_false h2
  have r2 := of_decide_eq_false h3
  exact k0_ok (bne_eq_false_iff_eq.1 h1) hs hh ⟨by omega, by omega⟩
end St
open St
abbrev cs_strokeHoops : List TC := [cLawn, .i .u8, cI, .i .u16]
noncomputable def X_strokeHoopsF (G : FRun4) : Ctx := ctxL Tryz.prog (plHp G) [(11, Tryz.f11)] [((11, 17), loopSum L_hp E_hp (finX [.exit 0] st_hp fu_hp))]
noncomputable def X_strokeHoops : Ctx := X_strokeHoopsF runV
theorem X_strokeHoops_ok : CtxOk X_strokeHoops := ctxL_ok mixed puHp (fns_cons is_StrokeHoops fns_nil) (loops_one (by kernel_rfl) (by kernel_rfl) l_hp)
theorem T_hp_eq (G : FRun4) (y : TCTs cs_strokeHoops) : evFn (X_strokeHoopsF G) 8 (.fn 11) (encAs cs_strokeHoops y) noHeap 0 lawK = T_hp G y.1 y.2.1 y.2.2.1 y.2.2.2.1 := by kernel_rfl
theorem strokeHoops_sat : LawSat2 X_strokeHoops 11 cs_strokeHoops 8 := lawSat2 8 (fun y => T_hp runV y.1 y.2.1 y.2.2.1 y.2.2.2.1) (T_hp_eq runV) fun _ hw hs => hp_all hs.1.1 hw.2.1
end V
end Go.Proofs.YtkiaifmbbnnliaaGreat
