import Derived.Test.YtkiaifmbbnnliaaGreatDf
namespace Go.Proofs.YtkiaifmbbnnliaaGreat
open Go.RowKit
namespace V
namespace St
def hitB (now was : Int) : Bool := now == 3 && (was == 1 || was == 2)
def ruE (h : TCT cHoop) (f : Bool) (r : Int) (l : Trk) (i : Nat) (was : Int) : Int ⊕ Unit := bif decide ((i : Int) > 0) && hitB (standV h f (getPt l i) r) was then .inr () else .inl (standV h f (getPt l i) r)
def res_ru : Int ⊕ Unit → Left' E_ru
  | .inl _ => ex_ru
  | .inr _ => rt_ru
theorem it_ru {h : TCT cHoop} {f : Bool} {r : Int} {l : Trk} (hn : (l.length : Int) ≤ maxK .i64) : iter st_ru (l.length + 1) (hd_ru h f r l l.length 0 0) = some (res_ru (foldN (ruE h f r l) 0 l.length 0)) := by
  refine iter_n l.length (fun i was => hd_ru h f r l l.length i was) (ruE h f r l) res_ru (fun _ _ => True) (fun i s hi _ => ?_) (fun _ _ _ _ _ _ => trivial) (fun s _ => ?_) l.length 0 0 (by omega) trivial
  · show (st_ru' h f r l l.length i s).run = _
    unfold st_ru' nx_ru ruE hitB
    rw [decide_eq_true (show (i : Int) < (l.length : Int) by omega), inN_ok (by omega), show Int.toNat (i : Int) = i from rfl, W64_succ hi hn]
    generalize standV h f (getPt l i) r = now
    cases decide ((i : Int) > 0) <;> cases now == 3 <;> cases s == 1 <;> cases s == 2 <;> rfl
  · show (st_ru' h f r l l.length l.length s).run = _
    unfold st_ru'
    rw [decide_eq_false (show ¬ (l.length : Int) < (l.length : Int) by omega)]
    rfl
def runB (h : TCT cHoop) (f : Bool) (r : Int) (l : Trk) : Bool := match foldN (ruE h f r l) 0 l.length 0 with
  | .inl _ => false
  | .inr _ => true
abbrev RuR : Type := TCTs [.b, cI]
abbrev TRuR := Tree RuR
def hoopV (l : TCT cLawn) (n : Int) : TCT cHoop := getA (hoopsL l) (Int.toNat n) (dflt cHoop)
def lastP (t : Trk) : TCT cPt := getPt t (Int.toNat (W64 ((t.length : Int) - 1)))
def argB (n nh r m : Int) : Bool := decide (n < 0) || (decide (n ≥ nh) || (decide (r < 1) || (decide (r > 16384) || m == 0)))
def runV (l : TCT cLawn) (n : Int) (f : Bool) (r : Int) (t : Trk) : RuR := bif lawE l != 0 then (false, lawE l, ()) else bif argB n (hoopsL l).length r t.length then (false, 3, ()) else bif decide ((t.length : Int) > 4001) then (false, 6, ()) else bif t.any (p_Pt ()) then (false, 2, ()) else
  bif decide (W64 (fwd f (uH (hoopV l n) (lastP t)) - r) < W64 (0 - (hoopV l n).2.2.2.1)) then (false, 0, ()) else (runB (hoopV l n) f r t, 0, ())
def etaRu (r : RuR) : RuR := (r.1, r.2.1, ())
abbrev s_Runs : PureT := spec [cLawn, cI, .b, cI, .sl cPt] [.b, cI] (fun x => decide ((x.1.1.size : Int) ≤ maxK .i64)) (fun x => etaRu (runV x.1 x.2.1 x.2.2.1 x.2.2.2.1 x.2.2.2.2.1))
def cond_ru (n nh r m : Int) (bad many go : TRuR) : TRuR := bif decide (n < 0) then bad else bif decide (n ≥ nh) then bad else bif decide (r < 1) then bad else bif decide (r > 16384) then bad else bif m == 0 then bad else bif decide (m > 4001) then many else go
theorem cond_ru_eq {n nh r m : Int} {bad many go : TRuR} : cond_ru n nh r m bad many go = bif argB n nh r m then bad else bif decide (m > 4001) then many else go := by
  unfold cond_ru argB
  cases decide (n < 0) <;> cases decide (n ≥ nh) <;> cases decide (r < 1) <;> cases decide (r > 16384) <;> cases m == 0 <;> rfl
def bef_ru (u r wr : Int) (no go : TRuR) : TRuR := bif decide (W64 (u - r) < W64 (0 - wr)) then no else go
def u_ru (h : TCT cHoop) (f : Bool) (p : TCT cPt) (r : Int) (no go : TRuR) : TRuR := bif h.2.2.2.2.1 then bif !f then bef_ru (W64 (0 - W64 (p.1 - h.1))) r h.2.2.2.1 no go else bef_ru (W64 (p.1 - h.1)) r h.2.2.2.1 no go
  else bif !f then bef_ru (W64 (0 - W64 (p.2.1 - h.2.1))) r h.2.2.2.1 no go else bef_ru (W64 (p.2.1 - h.2.1)) r h.2.2.2.1 no go
theorem u_ru_eq {h : TCT cHoop} {f : Bool} {p : TCT cPt} {r : Int} {no go : TRuR} : u_ru h f p r no go = bef_ru (fwd f (uH h p)) r h.2.2.2.1 no go := by
  unfold u_ru fwd uH
  cases h.2.2.2.2.1 <;> cases f <;> rfl
def lf_ru (b : Bool) (e : Int) : TRuR := .leaf (b, e, ())
def k_ru (y : Option (Left' E_ru)) : TRuR := bif isE .ret y then .leaf ((valE .ret y).1.1, (valE .ret y).1.2.1, ()) else bif isE (.exit 1) y then lf_ru false 0 else .fail
def go_ru (l : TCT cLawn) (n : Int) (f : Bool) (r : Int) (t : Trk) : TRuR := inN (hoopsL l).length n (inN t.length (W64 ((t.length : Int) - 1)) (u_ru (hoopV l n) f (lastP t) r (lf_ru false 0) (k_ru (iter st_ru (Int.toNat (t.length : Int) + 1) (hd_ru (hoopV l n) f r t t.length 0 0)))))
def T_ru (l : TCT cLawn) (n : Int) (f : Bool) (r : Int) (t : Trk) : TRuR := szT l (bif lawE l != 0 then lf_ru false (lawE l) else cond_ru n (hoopsL l).length r t.length (lf_ru false 3) (lf_ru false 6) (bif t.any (p_Pt ()) then lf_ru false 2 else go_ru l n f r t))
noncomputable def X_ru : Ctx := ctxL Tryz.prog plRu [(43, Tryz.f43)] [((43, 20), loopSum L_ru E_ru (finX [.ret, .exit 1] st_ru fu_ru))]
theorem X_ru_ok : CtxOk X_ru := ctxL_ok mixed puRu (fns_cons is_sRuns fns_nil) (loops_cons (loops_of (ds := [lb_ru]) (by kernel_rfl) ⟨one_key (k := 20) (by kernel_rfl) rfl l_ru, trivial⟩) loops_nil)
theorem T_ru_eq (x : TCTs [cLawn, cI, .b, cI, .sl cPt]) : evFn X_ru 8 (.fn 43) (encAs [cLawn, cI, .b, cI, .sl cPt] x) noHeap 0 (outK Tryz.prog [.b, cI]) = T_ru x.1 x.2.1 x.2.2.1 x.2.2.2.1 x.2.2.2.2.1 := by kernel_rfl
theorem arg_in {n nh r m : Int} (h : argB n nh r m = false) : 0 ≤ n ∧ n < nh ∧ m ≠ 0 := by
  unfold argB at h
  simp only [Bool.or_eq_false_iff, decide_eq_false_iff_not, beq_eq_false_iff_ne] at h
  exact ⟨by omega, by omega, h.2.2.2.2⟩
theorem last_in {m : Nat} (h : (m : Int) ≠ 0) (hm : (m : Int) ≤ maxK .i64) : 0 ≤ W64 ((m : Int) - 1) ∧ W64 ((m : Int) - 1) < (m : Int) := by
  have : (m : Int) ≤ 9223372036854775807 := hm
  rw [W64_id (n := (m : Int) - 1) (by omega) (by omega)]
  omega
theorem q_Runs : PureOk Tryz.prog 43 s_Runs := q_by X_ru_ok 8 (fun x => T_ru x.1 x.2.1 x.2.2.1 x.2.2.2.1 x.2.2.2.2.1) T_ru_eq fun x hok hw => by
  have hs : (x.1.1.size : Int) ≤ maxK .i64 := of_decide_eq_true hok
  have hn : ((x.2.2.2.2.1 : Trk).length : Int) ≤ maxK .i64 := wfl_len hw.2.2.2.2.1
  obtain ⟨l, n, f, r, t, u⟩ := x
  show (T_ru l n f r t).sat fun y => y = etaRu (runV l n f r t)
  simp only at hs hn
  unfold T_ru runV
  rw [szT_ok hs, cond_ru_eq]
  cases lawE l != 0 with
  | true => exact rfl
  | false =>
    cases ha : argB n (hoopsL l).length r (t : Trk).length with
    | true => exact rfl
    | false =>
      have a := arg_in ha
      cases decide (((t : Trk).length : Int) > 4001) with
      | true => exact rfl
      | false =>
        cases (t : Trk).any (p_Pt ()) with
        | true => exact rfl
        | false =>
          unfold go_ru
          simp only [cond_false]
          rw [inN_ok ⟨a.1, a.2.1⟩, inN_ok (last_in a.2.2 hn), u_ru_eq]
          unfold bef_ru
          cases decide (W64 (fwd f (uH (hoopV l n) (lastP t)) - r) < W64 (0 - (hoopV l n).2.2.2.1)) with
          | true => exact rfl
          | false =>
            simp only [cond_false]
            rw [show Int.toNat ((t : Trk).length : Int) = (t : Trk).length from rfl, it_ru hn]
            unfold runB
            cases foldN (ruE (hoopV l n) f r t) 0 (t : Trk).length 0 <;> exact rfl
end St
end V
end Go.Proofs.YtkiaifmbbnnliaaGreat
