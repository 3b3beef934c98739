import Derived.Test.YtkiaifmbbnnliaaGreatDd
namespace Go.Proofs.YtkiaifmbbnnliaaGreat
open Go.RowKit
namespace V
namespace St
theorem X_con_ok : CtxOk X_con := ctxL_ok mixed puOk_nil (fns_cons is_cont (fns_cons is_indx fns_nil)) (loops_cons (loops_none (by kernel_rfl)) (loops_one (by kernel_rfl) (by kernel_rfl) l_ix))
theorem q_con : PureOk Tryz.prog 99 s_con := q_by X_con_ok 7 (fun x => k_con (iter st_ix ((x.1 : List Int).length + 1) (hd_ix x.1 x.2.1 (x.1 : List Int).length 0))) (fun x => by kernel_rfl) fun x _ hw => by
  have hl : ((x.1 : List Int).length : Int) ≤ maxK .i64 := wfl_len hw.1
  have h := ix_any (l := x.1) (v := x.2.1) (x.1 : List Int).length 0 (by omega)
  rw [it_ix hl]
  cases hf : foldN (ixE x.1 x.2.1) 0 (x.1 : List Int).length () with
  | inl u =>
    rw [hf] at h
    have h' : anyB x.1 x.2.1 = false := h
    show (false, ()) = (anyB x.1 x.2.1, ())
    rw [h']
  | inr j =>
    rw [hf] at h
    have h' : anyB x.1 x.2.1 = true := h.1
    show (decide (j ≥ 0), ()) = (anyB x.1 x.2.1, ())
    rw [h', decide_eq_true h.2]
theorem X_me1_ok : CtxOk X_me1 := ctx_ok mixed (puOk_cons is_cont.plain q_con puOk_nil) (fns_cons is_sMet1 fns_nil)
theorem l_me : LoopOk Tryz.prog 47 lb_me (loopSum L_me E_me (finX [.ret, .exit 0] st_me fu_me)) := loopOk_x0 X_me1_ok 7 _ L_me E_me (fun e => by cases e <;> exact Nat.le_refl _) [.ret, .exit 0] st_me fu_me (fun g => by kernel_rfl)
def badB (n b o : Int) : Bool := bif decide (b ≥ 0) then bif !decide (b < n) then true else bif decide (o ≥ 0) then bif !decide (o < n) then true else b == o else true else true
theorem chk_me_eq {β : Type} {n b o : Int} {bad k : Tree β} : chk_me n b o bad k = bif badB n b o then bad else k := by
  unfold chk_me badB
  cases decide (b ≥ 0) <;> cases decide (b < n) <;> cases decide (o ≥ 0) <;> cases decide (o < n) <;> cases b == o <;> rfl
def adI (out : List Int) (o : Int) : List Int := bif decide (o ≥ 0) then bif !anyB out o then out ++ [o] else out else out
theorem adI_len {out : List Int} {o : Int} : (adI out o).length ≤ out.length + 1 := by
  unfold adI
  cases decide (o ≥ 0) <;> cases anyB out o <;> simp
theorem ad_me_eq {β : Type} {out : List Int} {o : Int} {k : List Int → Tree β} (h : out.length ≤ 5000) : ad_me out o k = k (adI out o) := by
  unfold ad_me adI
  rw [app_ok (by simp; omega) (by decide)]
  cases decide (o ≥ 0) <;> cases anyB out o <;> rfl
def adV (ball : Int) (out : List Int) (b o : Int) : List Int := bif ball == b then adI out o else bif ball == o then adI out b else out
theorem adV_len {ball : Int} {out : List Int} {b o : Int} : (adV ball out b o).length ≤ out.length + 1 := by
  unfold adV
  cases ball == b with
  | true => exact adI_len
  | false =>
    cases ball == o with
    | true => exact adI_len
    | false => exact Nat.le_succ _
theorem one_me_eq {β : Type} {ball : Int} {out : List Int} {b o : Int} {k : List Int → Tree β} (h : out.length ≤ 5000) : one_me ball out b o k = k (adV ball out b o) := by
  unfold one_me adV
  rw [ad_me_eq h, ad_me_eq h]
  cases ball == b <;> cases ball == o <;> rfl
def badI (n : Int) (l : Kns) (i : Nat) : Bool := badB n (getK l i).2.2.2.1 (getK l i).2.2.2.2.1
def ballI (l : Kns) (i : Nat) : Bool := (getK l i).2.2.1 == 0
def adK (ball : Int) (l : Kns) (i : Nat) (out : List Int) : List Int := bif ballI l i then adV ball out (getK l i).2.2.2.1 (getK l i).2.2.2.2.1 else out
def meE (n ball : Int) (l : Kns) (i : Nat) (out : List Int) : List Int ⊕ Int := bif ballI l i && badI n l i then .inr 2 else .inl (adK ball l i out)
def chE (n : Int) (l : Kns) (i : Nat) (_ : Unit) : Unit ⊕ Int := bif ballI l i && badI n l i then .inr 2 else .inl ()
def adE (ball : Int) (l : Kns) (i : Nat) (out : List Int) : List Int ⊕ Empty := .inl (adK ball l i out)
theorem me_two {n ball : Int} {l : Kns} : ∀ (k i : Nat) (out : List Int), foldN (meE n ball l) i k out = match foldN (chE n l) i k () with
    | .inr e => .inr e
    | .inl _ => .inl (unE (foldN (adE ball l) i k out))
  | 0, _, _ => rfl
  | k + 1, i, out => by
    unfold foldN
    rw [show meE n ball l i out = bif ballI l i && badI n l i then .inr 2 else .inl (adK ball l i out) from rfl, show chE n l i () = bif ballI l i && badI n l i then .inr 2 else .inl () from rfl]
    cases ballI l i && badI n l i with
    | true => rfl
    | false => exact me_two k (i + 1) (adK ball l i out)
theorem adK_len {ball : Int} {l : Kns} {i : Nat} {out : List Int} : (adK ball l i out).length ≤ out.length + 1 := by
  unfold adK
  cases ballI l i with
  | true => exact adV_len
  | false => exact Nat.le_succ _
theorem inv_me {n ball : Int} {l : Kns} {m : Nat} (i : Nat) (s s' : List Int) (_ : i < m) (h : s.length ≤ i) (h2 : meE n ball l i s = .inl s') : s'.length ≤ i + 1 := by
  unfold meE at h2
  cases hb : ballI l i && badI n l i with
  | true => rw [hb] at h2; cases h2
  | false =>
    rw [hb] at h2
    cases h2
    have := adK_len (ball := ball) (l := l) (i := i) (out := s)
    omega
def res_me : List Int ⊕ Int → Left' E_me
  | .inl out => ex_me out
  | .inr _ => rt_me
theorem ne0_eq (x : Int) : (x != 0) = !(x == 0) := rfl
theorem it_me {x : SKTs kGr} {ball : Int} {l : Kns} (hl : l.length ≤ 4200) : iter st_me (l.length + 1) (hd_me x ball l l.length 0 []) = some (res_me (foldN (meE (blX x).length ball l) 0 l.length [])) := by
  have hn : (l.length : Int) ≤ maxK .i64 := by show (l.length : Int) ≤ 9223372036854775807; omega
  refine iter_n l.length (fun i s => hd_me x ball l l.length i s) (meE (blX x).length ball l) res_me (fun i s => s.length ≤ i) (fun i s hi hs => ?_) inv_me (fun s _ => ?_) l.length 0 [] (by omega) (Nat.le_refl _)
  · show (st_me' x ball l l.length i s).run = _
    unfold st_me' meE adK
    rw [decide_eq_true (show (i : Int) < (l.length : Int) by omega), inN_ok (by omega), show Int.toNat (i : Int) = i from rfl, W64_succ hi hn, chk_me_eq, one_me_eq (by omega), ne0_eq]
    show Tree.run (bif !ballI l i then _ else bif badI (blX x).length l i then _ else _ : TMe) = _
    cases ballI l i with
    | false => rfl
    | true => cases badI (blX x).length l i <;> rfl
  · show (st_me' x ball l l.length l.length s).run = _
    unfold st_me'
    rw [decide_eq_false (show ¬ (l.length : Int) < (l.length : Int) by omega)]
    rfl
def res_r1 (l : Kns) (ball : Int) : Unit ⊕ Int → Left' E_r1
  | .inl _ => ex_r1 l ball
  | .inr _ => rt_r1
theorem badB_eq {n b o : Int} : badB n b o = (decide (b < 0) || (decide (b ≥ n) || (decide (o < 0) || (decide (o ≥ n) || b == o)))) := by
  unfold badB
  have e1 : decide (b ≥ 0) = !decide (b < 0) := by by_cases h : b < 0 <;> simp [h] <;> omega
  have e2 : decide (o ≥ 0) = !decide (o < 0) := by by_cases h : o < 0 <;> simp [h] <;> omega
  have e3 : decide (b < n) = !decide (b ≥ n) := by by_cases h : b < n <;> simp [h] <;> omega
  have e4 : decide (o < n) = !decide (o ≥ n) := by by_cases h : o < n <;> simp [h] <;> omega
  rw [e1, e2, e3, e4]
  cases decide (b < 0) <;> cases decide (b ≥ n) <;> cases decide (o < 0) <;> cases decide (o ≥ n) <;> rfl
theorem it_r1 {n ball : Int} {l : Kns} (hl : l.length ≤ 4200) : iter st_r1 (l.length + 1) (hd_r1 l ball n 0) = some (res_r1 l ball (foldN (chE n l) 0 l.length ())) := by
  have hn : (l.length : Int) ≤ maxK .i64 := by show (l.length : Int) ≤ 9223372036854775807; omega
  refine iter_n l.length (fun i _ => hd_r1 l ball n i) (chE n l) (res_r1 l ball) (fun _ _ => True) (fun i s hi _ => ?_) (fun _ _ _ _ _ _ => trivial) (fun s _ => ?_) l.length 0 () (by omega) trivial
  · show (st_r1' l ball n i).run = _
    have hb := badB_eq (n := n) (b := (getK l i).2.2.2.1) (o := (getK l i).2.2.2.2.1)
    unfold st_r1' chE badI
    rw [decide_eq_true (show (i : Int) < (l.length : Int) by omega)]
    simp only [inN_ok (show (0 : Int) ≤ (i : Int) ∧ (i : Int) < (l.length : Int) by omega)]
    rw [show Int.toNat (i : Int) = i from rfl, W64_succ hi hn, hb]
    show Tree.run (bif ballI l i then _ else _ : TMr1) = _
    cases ballI l i with
    | false => rfl
    | true =>
      cases decide ((getK l i).2.2.2.1 < 0) with
      | true => rfl
      | false =>
        cases decide ((getK l i).2.2.2.1 ≥ n) with
        | true => rfl
        | false =>
          cases decide ((getK l i).2.2.2.2.1 < 0) with
          | true => rfl
          | false =>
            cases decide ((getK l i).2.2.2.2.1 ≥ n) with
            | true => rfl
            | false => cases (getK l i).2.2.2.1 == (getK l i).2.2.2.2.1 <;> rfl
  · show (st_r1' l ball n l.length).run = _
    unfold st_r1'
    rw [decide_eq_false (show ¬ (l.length : Int) < (l.length : Int) by omega)]
    rfl
def r3E (out : List Int) (k : Nat) (o : Int) : Int ⊕ Empty := .inl (bif getA out k (dflt cI) == o then -1 else o)
def res_r3 (l : Kns) (ball : Int) (out : List Int) (i : Int) (r : Int ⊕ Empty) : Left' E_r3 := ex_r3 l ball out i (unE r)
theorem it_r3 {l : Kns} {ball : Int} {out : List Int} {i o : Int} (hl : out.length ≤ 5000) : iter st_r3 (out.length + 1) (hd_r3 l ball out i o 0) = some (res_r3 l ball out i (foldN (r3E out) 0 out.length o)) := by
  have hn : (out.length : Int) ≤ maxK .i64 := by show (out.length : Int) ≤ 9223372036854775807; omega
  refine iter_n out.length (fun k o => hd_r3 l ball out i o k) (r3E out) (res_r3 l ball out i) (fun _ _ => True) (fun k o hk _ => ?_) (fun _ _ _ _ _ _ => trivial) (fun o _ => ?_) out.length 0 o (by omega) trivial
  · show (st_r3' l ball out i o k).run = _
    unfold st_r3' r3E
    rw [decide_eq_true (show (k : Int) < (out.length : Int) by omega), inO_ok (by omega), show Int.toNat (k : Int) = k from rfl, W64_succ hk hn]
    cases getA out k (dflt cI) == o <;> rfl
  · show (st_r3' l ball out i o out.length).run = _
    unfold st_r3'
    rw [decide_eq_false (show ¬ (out.length : Int) < (out.length : Int) by omega)]
    rfl
theorem r3_any {out : List Int} : ∀ (k i : Nat) (o : Int), 0 ≤ o → i + k = out.length → (∀ x ∈ out, 0 ≤ x) → unE (foldN (r3E out) i k o) = bif anyB (out.drop i) o then -1 else o
  | 0, i, o, _, h, _ => by
    rw [List.drop_eq_nil_of_le (by omega)]; rfl
  | k + 1, i, o, ho, h, hp => by
    have hi : i < out.length := by omega
    have e : anyB (out.drop i) o = ((out[i] == o) || anyB (out.drop (i + 1)) o) := by rw [List.drop_eq_getElem_cons hi]; rfl
    show unE (foldN (r3E out) (i + 1) k (bif getA out i (dflt cI) == o then -1 else o)) = _
    rw [getA_lt hi, e]
    cases hv : out[i] == o with
    | true =>
      have neg : ∀ (k i : Nat), i + k = out.length → unE (foldN (r3E out) i k (-1)) = -1 := by
        intro k
        induction k with
        | zero => intro i _; rfl
        | succ k ih =>
          intro i hik
          have hi : i < out.length := by omega
          show unE (foldN (r3E out) (i + 1) k (bif getA out i (dflt cI) == -1 then -1 else -1)) = -1
          rw [show (bif getA out i (dflt cI) == -1 then (-1 : Int) else -1) = -1 by cases getA out i (dflt cI) == -1 <;> rfl]
          exact ih (i + 1) (by omega)
      exact neg k (i + 1) (by omega)
    | false =>
      rw [Bool.false_or]
      exact r3_any k (i + 1) o ho (by omega) hp
theorem r3_neg {out : List Int} : ∀ (k i : Nat), unE (foldN (r3E out) i k (-1)) = -1
  | 0, _ => rfl
  | k + 1, i => by
    show unE (foldN (r3E out) (i + 1) k (bif getA out i (dflt cI) == -1 then -1 else -1)) = -1
    rw [show (bif getA out i (dflt cI) == -1 then (-1 : Int) else -1) = -1 by cases getA out i (dflt cI) == -1 <;> rfl]
    exact r3_neg k (i + 1)
theorem beqI_comm (a b : Int) : (a == b) = (b == a) := by
  by_cases h : a = b
  · subst h; rfl
  · rw [beq_eq_false_iff_ne.2 h, beq_eq_false_iff_ne.2 (Ne.symm h)]
theorem y_r3_neg {l : Kns} {ball : Int} {out : List Int} {i : Nat} {n : Nat} (hl : out.length ≤ 5000) (hi : i < n) (hn : (n : Int) ≤ maxK .i64) : y_r3 l ball out i (-1) = .leaf (.inl (hd_r2 l ball ((i + 1 : Nat) : Int) out)) := by
  unfold y_r3
  rw [it_r3 hl]
  unfold res_r3
  rw [r3_neg, ← W64_succ hi hn]
  rfl
theorem y_r3_pos {l : Kns} {ball o : Int} {out : List Int} {i : Nat} {n : Nat} (hl : out.length ≤ 5000) (ho : 0 ≤ o) (hp : ∀ x ∈ out, 0 ≤ x) (hi : i < n) (hn : (n : Int) ≤ maxK .i64) : y_r3 l ball out i o = .leaf (.inl (hd_r2 l ball ((i + 1 : Nat) : Int) (adI out o))) := by
  unfold y_r3
  rw [it_r3 hl]
  unfold res_r3
  rw [r3_any out.length 0 o ho (by omega) hp, ← W64_succ hi hn]
  show k3_r2 (some (ex_r3 l ball out i (bif anyB out o then -1 else o))) = _
  unfold adI
  rw [decide_eq_true ho]
  cases anyB out o with
  | true => rfl
  | false =>
    show (bif decide (o ≥ 0) then bif appOk out [o] 8 then _ else .fail else _ : TM2') = _
    rw [decide_eq_true ho, app_ok (by simp; omega) (by decide)]
    rfl
theorem adI_pos {out : List Int} {o : Int} (hp : ∀ x ∈ out, 0 ≤ x) : ∀ x ∈ adI out o, 0 ≤ x := by
  unfold adI
  cases ho : decide (o ≥ 0) with
  | false => exact hp
  | true =>
    cases anyB out o with
    | true => exact hp
    | false =>
      intro x hx
      rcases List.mem_append.1 hx with hx | hx
      · exact hp x hx
      · rw [List.mem_singleton.1 hx]; exact of_decide_eq_true ho
theorem adK_pos {ball : Int} {l : Kns} {i : Nat} {out : List Int} (hp : ∀ x ∈ out, 0 ≤ x) : ∀ x ∈ adK ball l i out, 0 ≤ x := by
  unfold adK adV
  cases ballI l i with
  | false => exact hp
  | true =>
    cases ball == (getK l i).2.2.2.1 with
    | true => exact adI_pos hp
    | false =>
      cases ball == (getK l i).2.2.2.2.1 with
      | true => exact adI_pos hp
      | false => exact hp
theorem bad_pos {n b o : Int} (h : badB n b o = false) : 0 ≤ b ∧ 0 ≤ o := by
  rw [badB_eq] at h
  simp only [Bool.or_eq_false_iff, decide_eq_false_iff_not] at h
  omega
theorem ch_all {n : Int} {l : Kns} : ∀ (k i : Nat) (u : Unit), foldN (chE n l) i k () = .inl u → ∀ j, i ≤ j → j < i + k → (ballI l j && badI n l j) = false
  | 0, i, _, _, j, h1, h2 => by omega
  | k + 1, i, u, h, j, h1, h2 => by
    unfold foldN at h
    rw [show chE n l i () = bif ballI l i && badI n l i then .inr 2 else .inl () from rfl] at h
    cases hb : ballI l i && badI n l i with
    | true => rw [hb] at h; cases h
    | false =>
      rw [hb] at h
      by_cases e : j = i
      · subst e; exact hb
      · exact ch_all k (i + 1) u h j (by omega) (by omega)
structure InvM (i : Nat) (s : List Int) : Prop where
  n : s.length ≤ i
  p : ∀ x ∈ s, 0 ≤ x
def res_r2 (r : List Int ⊕ Empty) : Left' E_r2 := ex_r2 (unE r)
theorem it_r2 {n ball : Int} {l : Kns} (hl : l.length ≤ 4200) (hv : ∀ j, j < l.length → (ballI l j && badI n l j) = false) : iter st_r2 (l.length + 1) (hd_r2 l ball 0 []) = some (res_r2 (foldN (adE ball l) 0 l.length [])) := by
  have hn : (l.length : Int) ≤ maxK .i64 := by show (l.length : Int) ≤ 9223372036854775807; omega
  refine iter_n l.length (fun i s => hd_r2 l ball i s) (adE ball l) res_r2 InvM (fun i s hi hs => ?_) (fun i s s' _ hs h => ?_) (fun s _ => ?_) l.length 0 [] (by omega) ⟨Nat.le_refl _, fun _ h => absurd h List.not_mem_nil⟩
  · show (st_r2' l ball i s).run = some (.inl (hd_r2 l ball ((i : Int) + 1) (adK ball l i s)))
    have hsn := hs.n
    have hvi := hv i hi
    unfold st_r2' el_r2 adK adV
    rw [decide_eq_true (show (i : Int) < (l.length : Int) by omega)]
    simp only [inN_ok (show (0 : Int) ≤ (i : Int) ∧ (i : Int) < (l.length : Int) by omega)]
    rw [show Int.toNat (i : Int) = i from rfl, y_r3_neg (by omega) hi hn, cond_true]
    show Tree.run (bif ballI l i then _ else bif ballI l i then _ else _ : TM2') = _
    cases hb : ballI l i with
    | false => rfl
    | true =>
      rw [hb, Bool.true_and] at hvi
      have hp := bad_pos (b := (getK l i).2.2.2.1) (o := (getK l i).2.2.2.2.1) hvi
      simp only [cond_true]
      rw [y_r3_pos (by omega) hp.1 hs.p hi hn, y_r3_pos (by omega) hp.2 hs.p hi hn, beqI_comm ball, beqI_comm ball]
      cases (getK l i).2.2.2.1 == ball with
      | true => rfl
      | false =>
        rw [show ((getK l i).2.2.1 == 0) = true from hb]
        cases (getK l i).2.2.2.2.1 == ball <;> rfl
  · cases h
    have := adK_len (ball := ball) (l := l) (i := i) (out := s)
    have hsn := hs.n
    exact ⟨by omega, adK_pos hs.p⟩
  · show (st_r2' l ball l.length s).run = _
    unfold st_r2'
    rw [decide_eq_false (show ¬ (l.length : Int) < (l.length : Int) by omega)]
    rfl
theorem dec_ge {a : Int} : decide (a ≥ 0) = !decide (a < 0) := by by_cases h : a < 0 <;> simp [h] <;> omega
theorem dec_lt {a n : Int} : decide (a < n) = !decide (a ≥ n) := by by_cases h : a < n <;> simp [h] <;> omega
abbrev MeR : Type := TCTs [.sl cI, cI]
def meR : List Int ⊕ Int → MeR
  | .inl out => (out, 0, ())
  | .inr _ => ([], 2, ())
def metV (g : TCT cGr) (l : Kns) (ball : Int) : MeR := bif groE g != 0 then ([], groE g, ()) else bif decide ((l.length : Int) > 4096) then ([], 6, ()) else bif decide (ball ≥ 0) && decide (ball < ((ballsG g).length : Int)) then meR (foldN (meE (ballsG g).length ball l) 0 l.length []) else ([], 3, ())
def etaMe (r : MeR) : MeR := (r.1, r.2.1, ())
abbrev s_Met : PureT := spec [cGr, .sl cKn, cI] [.sl cI, cI] (fun x => decide ((x.1.1.1.size : Int) ≤ maxK .i64)) (fun x => etaMe (metV x.1 x.2.1 x.2.2.1))
abbrev TMet := Tree MeR
def k_me (y : Option (Left' E_me)) : TMet := bif isE .ret y then .leaf ((valE .ret y).1.1, (valE .ret y).1.2.1, ()) else bif isE (.exit 0) y then .leaf ((valE (.exit 0) y).1.1, 0, ()) else .fail
def y_me (g : TCT cGr) (l : Kns) (ball : Int) : Option (Left' E_me) := iter st_me (l.length + 1) (hd_me (grTo g) ball l l.length 0 [])
def T_met (g : TCT cGr) (l : Kns) (ball : Int) : TMet := szT g.1 (bif groE g != 0 then .leaf ([], groE g, ()) else bif decide ((l.length : Int) > 4096) then .leaf ([], 6, ()) else bif decide (ball ≥ 0) then bif !decide (ball < ((ballsG g).length : Int)) then .leaf ([], 3, ()) else k_me (y_me g l ball) else .leaf ([], 3, ()))
def plMe : List (Nat × PureT) := (30, s_Gr) :: (31, s_Gr) :: (99, s_con) :: []
theorem puMe : PuOk Tryz.prog plMe := puOk_cons is_cGround.plain q_Gr (puOk_cons is_rGround.plain q_rGr (puOk_cons is_cont.plain q_con puOk_nil))
noncomputable def X_me : Ctx := ctxL Tryz.prog plMe [(47, Tryz.f47), (98, Tryz.f98)] [((47, 11), loopSum L_me E_me (finX [.ret, .exit 0] st_me fu_me))]
theorem X_me_ok : CtxOk X_me := ctxL_ok mixed puMe (fns_cons is_sMet (fns_cons is_sMet1 fns_nil)) (loops_cons (loops_of (ds := [lb_me]) (by kernel_rfl) ⟨one_key (k := 11) (by kernel_rfl) rfl l_me, trivial⟩) (loops_cons (loops_none (by kernel_rfl)) loops_nil))
theorem q_Met : PureOk Tryz.prog 47 s_Met := q_by X_me_ok 8 (fun x => T_met x.1 x.2.1 x.2.2.1) (fun x => by kernel_rfl) fun x hok _ => by
  have hs : (x.1.1.1.size : Int) ≤ maxK .i64 := of_decide_eq_true hok
  show (T_met x.1 x.2.1 x.2.2.1).sat fun y => y = etaMe (metV x.1 x.2.1 x.2.2.1)
  unfold T_met metV
  rw [szT_ok hs]
  cases groE x.1 != 0 with
  | true => exact rfl
  | false =>
    cases h1 : decide (((x.2.1 : Kns).length : Int) > 4096) with
    | true => exact rfl
    | false =>
      have hl : (x.2.1 : Kns).length ≤ 4096 := by have := of_decide_eq_false h1; omega
      unfold y_me
      rw [it_me (by omega)]
      cases decide (x.2.2.1 ≥ 0) with
      | false => exact rfl
      | true =>
        cases decide (x.2.2.1 < ((ballsG x.1).length : Int)) with
        | false => exact rfl
        | true =>
          show Tree.sat (fun y => y = etaMe (meR (foldN (meE (ballsG x.1).length x.2.2.1 x.2.1) 0 (x.2.1 : Kns).length []))) (k_me (some (res_me (foldN (meE (ballsG x.1).length x.2.2.1 x.2.1) 0 (x.2.1 : Kns).length []))))
          cases foldN (meE (ballsG x.1).length x.2.2.1 x.2.1) 0 (x.2.1 : Kns).length [] <;> exact rfl
def k2_rm (y : Option (Left' E_r2)) : TMet := bif isE (.exit 2) y then .leaf ((valE (.exit 2) y).1.1, 0, ()) else .fail
def k1_rm (y : Option (Left' E_r1)) : TMet := bif isE .ret y then .leaf ((valE .ret y).1.1, (valE .ret y).1.2.1, ()) else bif isE (.exit 0) y then k2_rm (iter st_r2 (((valE (.exit 0) y).1.1 : Kns).length + 1) (hd_r2 (valE (.exit 0) y).1.1 (valE (.exit 0) y).1.2.1 0 [])) else .fail
def T_rme (g : TCT cGr) (l : Kns) (ball : Int) : TMet := szT g.1 (bif groE g != 0 then szT g.1 (.leaf ([], groE g, ())) else bif decide ((l.length : Int) > 4096) then .leaf ([], 6, ()) else bif decide (ball < 0) then .leaf ([], 3, ()) else bif decide (ball ≥ ((ballsG g).length : Int)) then .leaf ([], 3, ()) else k1_rm (iter st_r1 (l.length + 1) (hd_r1 l ball (ballsG g).length 0)))
noncomputable def X_rme : Ctx := ctxL Tryz.prog plMe [(48, Tryz.f48)] [((48, 9), loopSum L_r1 E_r1 (finX [.ret, .exit 0] st_r1 fu_r1)), ((48, 15), loopSum L_r2 E_r2 (finX [.exit 2] st_r2 fu_r2))]
theorem X_rme_ok : CtxOk X_rme := ctxL_ok mixed puMe (fns_cons is_rMet fns_nil) (loops_cons (loops_of (ds := [lb_r1, lb_r2, lb_r3]) (by kernel_rfl) ⟨one_key (k := 9) (by kernel_rfl) rfl l_r1, one_key (k := 15) (by kernel_rfl) rfl l_r2, no_key (k := 23) (by kernel_rfl) rfl, trivial⟩) loops_nil)
theorem q_rMet : PureOk Tryz.prog 48 s_Met := q_by X_rme_ok 8 (fun x => T_rme x.1 x.2.1 x.2.2.1) (fun x => by kernel_rfl) fun x hok _ => by
  have hs : (x.1.1.1.size : Int) ≤ maxK .i64 := of_decide_eq_true hok
  show (T_rme x.1 x.2.1 x.2.2.1).sat fun y => y = etaMe (metV x.1 x.2.1 x.2.2.1)
  unfold T_rme metV
  rw [szT_ok hs, szT_ok hs]
  cases groE x.1 != 0 with
  | true => exact rfl
  | false =>
    cases h1 : decide (((x.2.1 : Kns).length : Int) > 4096) with
    | true => exact rfl
    | false =>
      have hl : (x.2.1 : Kns).length ≤ 4096 := by have := of_decide_eq_false h1; omega
      rw [it_r1 (by omega)]
      have e1 : decide (x.2.2.1 ≥ 0) = !decide (x.2.2.1 < 0) := dec_ge
      have e2 : decide (x.2.2.1 < ((ballsG x.1).length : Int)) = !decide (x.2.2.1 ≥ ((ballsG x.1).length : Int)) := dec_lt
      rw [e1, e2]
      cases decide (x.2.2.1 < 0) with
      | true => exact rfl
      | false =>
        cases decide (x.2.2.1 ≥ ((ballsG x.1).length : Int)) with
        | true => exact rfl
        | false =>
          show Tree.sat (fun y => y = etaMe (meR (foldN (meE (ballsG x.1).length x.2.2.1 x.2.1) 0 (x.2.1 : Kns).length []))) (k1_rm (some (res_r1 x.2.1 x.2.2.1 (foldN (chE (ballsG x.1).length x.2.1) 0 (x.2.1 : Kns).length ()))))
          rw [me_two]
          cases hf : foldN (chE (ballsG x.1).length x.2.1) 0 (x.2.1 : Kns).length () with
          | inr e => exact rfl
          | inl u =>
            have hv := ch_all (x.2.1 : Kns).length 0 u hf
            show Tree.sat _ (k2_rm (iter st_r2 ((x.2.1 : Kns).length + 1) (hd_r2 x.2.1 x.2.2.1 0 [])))
            rw [it_r2 (n := (ballsG x.1).length) (by omega) (fun j hj => hv j (Nat.zero_le _) (by omega))]
            exact rfl
end St
end V
end Go.Proofs.YtkiaifmbbnnliaaGreat
