import Derived.Test.YtkiaifmbbnnliaaGreatCy
namespace Go.Proofs.YtkiaifmbbnnliaaGreat
open Go.RowKit
namespace V
theorem foldN_congr {S B : Type} {f g : Nat → S → S ⊕ B} {Inv : Nat → S → Prop} {n : Nat} (h1 : ∀ i s, i < n → Inv i s → f i s = g i s) (h2 : ∀ i s s', i < n → Inv i s → f i s = .inl s' → Inv (i + 1) s') : ∀ (k i : Nat) (s : S), i + k = n → Inv i s → foldN f i k s = foldN g i k s
  | 0, _, _, _, _ => rfl
  | k + 1, i, s, hk, hi => by
    unfold foldN
    rw [← h1 i s (by omega) hi]
    cases hf : f i s with
    | inl s' => exact foldN_congr h1 h2 k (i + 1) s' (by omega) (h2 i s s' (by omega) hi hf)
    | inr b => rfl
theorem getA_setA {α : Type} {d : α} : ∀ (l : List α) (i j : Nat) (x : α), i < l.length → getA (setA l i x) j d = if j = i then x else getA l j d
  | [], i, _, _, h => absurd h (Nat.not_lt_zero i)
  | _ :: l, 0, 0, x, _ => rfl
  | _ :: l, 0, j + 1, x, _ => rfl
  | _ :: l, i + 1, 0, x, _ => by rw [if_neg (by omega)]; rfl
  | _ :: l, i + 1, j + 1, x, h => by
    show getA (setA l i x) j d = _
    rw [getA_setA l i j x (by simpa using h)]
    by_cases e : j = i
    · rw [if_pos e, if_pos (by omega)]
    · rw [if_neg e, if_neg (by omega)]; rfl
namespace St
theorem allI_get {α : Type} {ok : Nat → α → Bool} {d : α} : ∀ (l : List α) (i : Nat), allI ok i l = true → ∀ j, j < l.length → ok (i + j) (getA l j d) = true
  | [], _, _, j, hj => absurd hj (Nat.not_lt_zero j)
  | x :: l, i, h, j, hj => by
    simp only [allI, Bool.and_eq_true] at h
    cases j with
    | zero => exact h.1
    | succ j =>
      have := allI_get (d := d) l (i + 1) h.2 j (by simpa using hj)
      rw [show i + (j + 1) = i + 1 + j by omega]
      exact this
theorem fpt_of {x y w g : Int} (hx : 0 ≤ x) (hy : 0 ≤ y) (hxw : x ≤ w) (hyg : y ≤ g) (hw : w ≤ 4194304) (hg : g ≤ 4194304) : fpt x y = true := by
  unfold fpt
  exact decide_eq_true ⟨by omega, by omega, by omega, by omega⟩
theorem on_fpt {l : TCT cLawn} {p : TCT cPt} (hl : lawE l = 0) (h : onB l p = true) : cellE l p = 0 := by
  have a := law_ok hl
  have hw := a.w
  have hg := a.lg
  unfold cellE oneE
  unfold onB inR at h
  simp only [Bool.and_eq_true, decide_eq_true_eq] at h
  rw [hl, fpt_of h.1.1 h.2.1 h.1.2 h.2.2 hw.2 hg.2]
  show (bif onB l p then 0 else 5 : Int) = 0
  rw [show onB l p = true by unfold onB inR; simp only [Bool.and_eq_true, decide_eq_true_eq]; exact h]
  rfl
def onA (l : TCT cLawn) (os : List Bool) (n : Nat) (ms : Mots) : Prop := ms.length = n ∧ ∀ j, j < n → getA os j (dflt .b) = false → cellE l (getM ms j).1 = 0
theorem onA_step {l : TCT cLawn} {os : List Bool} {w fl : Int} {n i : Nat} {s s' : Mots} (hi : i < n) (h : onA l os n s) (h2 : slE l os w fl i s = .inl s') : onA l os n s' := by
  unfold slE at h2
  cases h3 : !rollB s os i || flyB w fl i with
  | true => rw [h3] at h2; cases h2; exact h
  | false =>
    rw [h3] at h2
    simp only [cond_false] at h2
    cases h4 : cellE l (getM s i).1 != 0 with
    | true => rw [h4] at h2; cases h2
    | false =>
      rw [h4] at h2
      simp only [cond_false] at h2
      cases h5 : (slwV l (getM s i)).2.1 != 0 with
      | true => rw [h5] at h2; cases h2
      | false =>
        rw [h5] at h2
        cases h2
        refine ⟨by rw [setA_len]; exact h.1, fun j hj ho => ?_⟩
        unfold getM
        rw [getA_setA s i j _ (by rw [h.1]; exact hi)]
        by_cases e : j = i
        · rw [if_pos e]
          subst e
          exact h.2 j hj ho
        · rw [if_neg e]; exact h.2 j hj ho
theorem sl_sr {l : TCT cLawn} {os : List Bool} {w fl : Int} {n : Nat} {ms : Mots} (h : onA l os n ms) : foldN (slE l os w fl) 0 n ms = foldN (srE l os w fl) 0 n ms := by
  refine foldN_congr (n := n) (Inv := fun _ s => onA l os n s) (fun i s hi hl => ?_) (fun i s s' hi hl h2 => onA_step hi hl h2) n 0 ms (by omega) h
  unfold slE srE
  cases h3 : !rollB s os i || flyB w fl i with
  | true => rfl
  | false =>
    have ho : getA os i (dflt .b) = false := by
      rw [Bool.or_eq_false_iff] at h3
      have := h3.1
      unfold rollB at this
      cases hg : getA os i (dflt .b) with
      | false => rfl
      | true => rw [hg] at this; cases this
    rw [hl.2 i hi ho]
    rfl
theorem sta_law {g : TCT cGr} {s : TCT cSt} (h : StaOk g s) : lawE g.1 = 0 := by
  have k := h.gr
  unfold groE at k
  cases h1 : lawE g.1 != 0 with
  | true => rw [h1, cond_true] at k; exact k
  | false => exact bne_eq_false_iff_eq.1 h1
theorem sta_on {g : TCT cGr} {s : TCT cSt} (h : StaOk g s) : onA g.1 (osT s) (ballsG g).length (msT s) := by
  refine ⟨h.m, fun j hj ho => ?_⟩
  have hm := h.m
  have a := allI_get (d := dflt cMot) (msT s) 0 h.ok j (by omega)
  rw [Nat.zero_add] at a
  unfold okS okO at a
  rw [ho] at a
  simp only [Bool.and_eq_true, cond_false] at a
  exact on_fpt (sta_law h) a.2
def rtF (k : CT) (s : S2) : S2 ⊕ Int := bif k.t == 4000 then .inr 3 else match foldN (srE k.l s.2.1 k.w k.fl) 0 k.bl.length s.1 with
  | .inr e => .inr e
  | .inl ms => foldN (tkE k) 0 16 (ms, s.2.1, s.2.2)
theorem rt_tk {g : TCT cGr} {s : TCT cSt} (h : StaOk g s) : rtF (ctS g s) (msT s, osT s, []) = tkF (ctS g s) (msT s, osT s, []) := by
  unfold rtF tkF
  rw [show foldN (slE (ctS g s).l (osT s) (ctS g s).w (ctS g s).fl) 0 (ctS g s).bl.length (msT s) = foldN (srE (ctS g s).l (osT s) (ctS g s).w (ctS g s).fl) 0 (ctS g s).bl.length (msT s) from sl_sr (sta_on h)]
  rfl
def flR (fl : Int) : Int := bif decide (fl > 0) then W64 (fl - 1) else fl
theorem flR_eq {fl : Int} (h0 : 0 ≤ fl) (h8 : fl ≤ 8) : flR fl = max 0 (W64 (fl - 1)) := by
  unfold flR
  rw [W64_id (n := fl - 1) (by omega) (by omega)]
  by_cases h : fl > 0
  · rw [decide_eq_true h]; show fl - 1 = _; omega
  · rw [decide_eq_false h]; show fl = _; omega
def Y_rt (g : TCT cGr) (s : SKTs kSo) : Option (S2 ⊕ Int) := bif okRw g s then some (rtF (ctS g s) (s.1, s.2.1, [])) else none
def mk0_rt (s : SKTs kSo) (r : S2) : (FE_rt true).T := (((r.1, r.2.1, s.2.2.1, flR s.2.2.2.1, W64 (s.2.2.2.2.1 + 1), ()), r.2.2, 0, ()), ())
def toR (s : SKTs kSo) : S2 ⊕ Int → LeftF FE_rt
  | .inl r => ⟨true, mk0_rt s r⟩
  | .inr e => ⟨true, erT e⟩
theorem fi_run {c : RT} {s : S2} {ms : Mots} {os : List Bool} : (fi_rt ((((), (), s.2.2, ()), ((s.1, s.2.1, c.w, c.fl, c.t, ()), c.z, ())) : R_t0.T)).run = some ⟨true, mk0_rt (ms, os, c.w, c.fl, c.t, ()) s⟩ := by
  unfold fi_rt mk0_rt flR
  show (bif decide (c.fl > 0) then _ else _ : TRt).run = some (⟨true, (((s.1, s.2.1, c.w, (bif decide (c.fl > 0) then W64 (c.fl - 1) else c.fl), W64 (c.t + 1), ()), s.2.2, 0, ()), ())⟩ : LeftF FE_rt)
  cases decide (c.fl > 0) <;> rfl
theorem rt_run {g : TCT cGr} {s : SKTs kSo} {z : S2 ⊕ Int} (h : Y_rt g s = some z) : (T_rt Y_rs (Y_rw ((g, s, ()), ())) g s).run = some (toR s z) := by
  unfold Y_rt at h
  cases ho : okRw g s with
  | false => rw [ho] at h; cases h
  | true =>
    rw [ho] at h
    cases h
    have hw : Y_rw ((g, s, ()), ()) = some (foldN (srE g.1 s.2.1 s.2.2.1 s.2.2.2.1) 0 (ballsG g).length s.1) := by
      unfold Y_rw
      show (bif okRw g s then _ else _) = _
      rw [ho]
      rfl
    unfold okRw at ho
    simp only [Bool.and_eq_true, decide_eq_true_eq] at ho
    obtain ⟨hsz, hm, hos, hn8⟩ := ho
    have hm' : (s.1 : Mots).length = (ballsG g).length := hm
    have hos' : (s.2.1 : List Bool).length = (ballsG g).length := hos
    unfold T_rt
    show _ = some (toR s (bif s.2.2.2.2.1 == 4000 then .inr 3 else match foldN (srE g.1 s.2.1 s.2.2.1 s.2.2.2.1) 0 (ballsG g).length s.1 with
      | .inr e => .inr e
      | .inl ms => foldN (tkE (ctS g s)) 0 16 (ms, s.2.1, [])))
    cases s.2.2.2.2.1 == 4000 with
    | true => rfl
    | false =>
      simp only [cond_false]
      cases hf : foldN (srE g.1 s.2.1 s.2.2.1 s.2.2.2.1) 0 (ballsG g).length s.1 with
      | inr e =>
        rw [hf] at hw
        obtain ⟨j, u, hj⟩ := foldN_err _ _ _ _ hf
        rw [thL_r hw (by rw [srE_err hj]; exact List.mem_singleton.2 rfl)]
        rfl
      | inl ms =>
        rw [hf] at hw
        rw [thL_l hw, szT_ok hsz]
        have hms : ms.length = (ballsG g).length := foldN_inv (n := (ballsG g).length) (Inv := fun _ (s : Mots) => s.length = (ballsG g).length) inv_rw (ballsG g).length 0 _ _ (by omega) hm' hf
        have hp := postsV_len (l := g.1)
        have hy : y_t0 Y_rs g s ms = some (res_t0 (cT4 g s) (foldN (tkE (ctS g s)) 0 16 (ms, s.2.1, []))) := it_t0 (c := cT4 g s) (s := (ms, s.2.1, [])) (k0 := 0) hn8 (by show (postsV g.1).length ≤ 1000; omega) ⟨hms, hos', Nat.le_refl _⟩ (by omega)
        rw [hy]
        show _ = some (toR s (foldN (tkE (ctS g s)) 0 16 (ms, s.2.1, [])))
        cases foldN (tkE (ctS g s)) 0 16 (ms, s.2.1, []) with
        | inl r => exact fi_run (c := cT4 g s) (ms := s.1) (os := s.2.1)
        | inr e => rfl
def mk_rt (s : SKTs kSo) (r : S2) (k : (FE_rt true).T → TRt) : TRt := match s with
  | (_, _, w, fl, t, _) => k (((r.1, r.2.1, w, flR fl, W64 (t + 1), ()), r.2.2, 0, ()), ())
abbrev spRD (Y : TCT cGr → SKTs kSo → Option (S2 ⊕ Int)) : SPf := fspec probeZ FL_rtD FE_rt (finYe (fun x : FL_rtD.T => Y x.1.1 x.1.2.1) (fun x => mk_rt x.1.2.1) erT ([], [], []))
theorem two_specR {f g : Nat} {s t : SPf} (hf : Plain Tryz.prog f) (h1 : SpecOk Tryz.prog f s) (hg : Plain Tryz.prog g) (h2 : SpecOk Tryz.prog g t) : ∀ p ∈ [(f, s), (g, t)], Plain Tryz.prog p.1 ∧ SpecOk Tryz.prog p.1 p.2 := fun p hp => by
  simp only [List.mem_cons, List.not_mem_nil, or_false] at hp
  rcases hp with rfl | rfl
  · exact ⟨hf, h1⟩
  · exact ⟨hg, h2⟩
theorem loops_rt {Y : YR4} (h : SpecOk Tryz.prog 63 (spYR Y)) : ∀ q ∈ [(69, Tryz.f69)], ∀ d ∈ loopsOf (bodyOf q.2), ∀ g, assoc2 [((69, 9), sm_t0 Y)] q.1 (keyOf d) = some g → LoopOk Tryz.prog q.1 d g :=
  loops_cons (loops_of (ds := [lb_t0, lb_t1, lb_t2, lb_t3, lb_t4]) (by kernel_rfl) ⟨one_key (k := 9) (by kernel_rfl) rfl (l_t0 h), no_key (k := 12) (by kernel_rfl) rfl, no_key (k := 20) (by kernel_rfl) rfl, no_key (k := 32) (by kernel_rfl) rfl, no_key (k := 35) (by kernel_rfl) rfl, trivial⟩) loops_nil
theorem X_rtD_ok : CtxOk (X_rtD Y_rs Y_rw) := ctxS_ok mixed puR4 (fns_cons is_rtick fns_nil) (loops_rt sp_rs) (two_specR is_rsettle.plain sp_rs is_rSlowed.plain sp_rw)
theorem sp_rtD : SpecOk Tryz.prog 69 (spRD Y_rt) := fspecYe X_rtD_ok 6 FE_rt_nxD (fun x : FL_rtD.T => Y_rt x.1.1 x.1.2.1) (fun x : FL_rtD.T => mk_rt x.1.2.1) (fun x : FL_rtD.T => mk0_rt x.1.2.1) (fun _ _ _ => rfl) erT ([], [], []) (fun x : FL_rtD.T => T_rt Y_rs (Y_rw ((x.1.1, x.1.2.1, ()), ())) x.1.1 x.1.2.1) (e_rtD Y_rs Y_rw) fun (x : FL_rtD.T) z _ h => by
  rw [rt_run h]
  cases z <;> rfl
end St
end V
end Go.Proofs.YtkiaifmbbnnliaaGreat
