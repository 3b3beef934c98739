import Derived.Test.YtkiaifmbbnnliaaGreatCu
namespace Go.Proofs.YtkiaifmbbnnliaaGreat
open Go.RowKit
namespace V
def errL {E : Bool → FLay} {A : Type} (y : Option (A ⊕ Int)) (er : Int → (E true).T) : List Int → Tree (LeftF E)
  | [] => .fail
  | e :: es => .br (isR y && gR 0 y == e) (.leaf ⟨true, er e⟩) (errL y er es)
theorem errL_sat {E : Bool → FLay} {A : Type} {y : Option (A ⊕ Int)} {er : Int → (E true).T} {R : LeftF E → Prop} : ∀ {es : List Int}, (errL y er es).sat R → ∃ e, y = some (.inr e) ∧ R ⟨true, er e⟩
  | [], h => h.elim
  | e :: es, h => by
    obtain ⟨h1, h2⟩ := h
    cases hb : isR y && gR 0 y == e with
    | false => exact errL_sat (h2 hb)
    | true =>
      rw [Bool.and_eq_true] at hb
      cases hy : y with
      | none => rw [hy] at hb; exact absurd hb.1 (by simp [isR])
      | some z =>
        cases z with
        | inl a => rw [hy] at hb; exact absurd hb.1 (by simp [isR])
        | inr x =>
          rw [hy] at hb
          have : x = e := beq_iff_eq.1 hb.2
          subst this
          refine ⟨x, rfl, h1 ?_⟩
          rw [hy, Bool.and_eq_true]
          exact hb
def finYl {L : FLay} {E : Bool → FLay} {A : Type} (Y : L.T → Option (A ⊕ Int)) (mk : L.T → A → ((E true).T → Tree (LeftF E)) → Tree (LeftF E)) (er : Int → (E true).T) (es : List Int) (d : A) (g : L.T) : Tree (LeftF E) :=
  .br (isL (Y g)) (mk g (gL d (Y g)) fun y => .leaf ⟨true, y⟩) (errL (Y g) er es)
def toYl {L : FLay} {E : Bool → FLay} {A : Type} (mk0 : L.T → A → (E true).T) (er : Int → (E true).T) (g : L.T) : A ⊕ Int → LeftF E
  | .inl a => ⟨true, mk0 g a⟩
  | .inr e => ⟨true, er e⟩
theorem fspecYl {X : Ctx} (hX : CtxOk X) {f : FuncId} (m : Nat) {probe : Heap → List AV → Option (List Nat)} {L : FLay} {E : Bool → FLay} (hE : ∀ b, L.nx ≤ (E b).nx) {A : Type} (Y : L.T → Option (A ⊕ Int)) (mk : L.T → A → ((E true).T → Tree (LeftF E)) → Tree (LeftF E)) (mk0 : L.T → A → (E true).T) (hmk : ∀ g a k, mk g a k = k (mk0 g a)) (er : Int → (E true).T) (es : List Int) (d : A) (T : L.T → Tree (LeftF E))
    (he : ∀ g, evBody X (evFn X m) f (ofKs L.ks g.1 L.nx) (L.lay.hp g) (L.lay.of g).nx (foutK E) = T g)
    (h : ∀ g z, L.lay.WF g → Y g = some z → (T g).run = some (toYl mk0 er g z)) : SpecOk X.P f (fspec probe L E (finYl Y mk er es d)) :=
  fspec_ok hX m hE fun g R hw hf => by
    rw [he]
    unfold finYl at hf
    obtain ⟨h1, h2⟩ := hf
    cases hl : isL (Y g) with
    | true =>
      cases hY : Y g with
      | none => rw [hY] at hl; cases hl
      | some z =>
        cases z with
        | inr e => rw [hY] at hl; cases hl
        | inl a =>
          have h1' := h1 hl
          rw [hY, hmk] at h1'
          exact sat_loose4 (Tree.sat_run (h g _ hw hY) h1') fun x hx _ => hx
    | false =>
      obtain ⟨e, hY, hr⟩ := errL_sat (h2 hl)
      exact sat_loose4 (Tree.sat_run (h g _ hw hY) hr) fun x hx _ => hx
def thL {A β : Type} (y : Option (A ⊕ Int)) (d : A) (pn : Int → Tree β) (k : A → Tree β) : List Int → Tree β
  | es => bif isL y then k (gL d y) else (es.foldr (fun e t => bif isR y && gR 0 y == e then pn e else t) .fail)
theorem thL_l {A β : Type} {y : Option (A ⊕ Int)} {d a : A} {pn : Int → Tree β} {k : A → Tree β} {es : List Int} (h : y = some (.inl a)) : thL y d pn k es = k a := by rw [h]; rfl
theorem thL_r {A β : Type} {y : Option (A ⊕ Int)} {d : A} {e : Int} {pn : Int → Tree β} {k : A → Tree β} {es : List Int} (h : y = some (.inr e)) (he : e ∈ es) : thL y d pn k es = pn e := by
  rw [h]
  show es.foldr (fun x t => bif e == x then pn x else t) .fail = pn e
  induction es with
  | nil => cases he
  | cons a l ih =>
    rw [List.foldr_cons]
    cases hc : e == a with
    | true => rw [← beq_iff_eq.1 hc]; rfl
    | false =>
      simp only [cond_false]
      rcases List.mem_cons.1 he with rfl | he
      · rw [beq_self_eq_true] at hc; cases hc
      · exact ih he
namespace St
def FL_rs : FLay := { ks := [.d cGr, .ag kSo, .d cI, .d cI], bs := [], nx := 1000 }
def FR_rs : FLay := { ks := [.ag kSo, kKn, .d cI], bs := [], nx := 1000 }
def FE_rs (b : Bool) : FLay := bif b then FR_rs else FN
theorem FE_rs_nx (b : Bool) : 1000 ≤ (FE_rs b).nx := by cases b <;> exact Nat.le_refl _
def probeA (_ : Heap) (args : List AV) : Option (List Nat) := match args with
  | [_, .agg cs, _, _] => some (ownL cs)
  | _ => none
def erR (e : Int) : (FE_rs true).T := ((([], [], 0, 0, 0, ()), [], e, ()), ())
abbrev TRs := Tree (LeftF FE_rs)
def k3_rs (y : Option (Left' E_q3)) : TRs := bif isE (.exit 4) y then .leaf ⟨true, (((valE (.exit 4) y).2.1, (valE (.exit 4) y).1.2.2.1, 0, ()), ())⟩ else .fail
def k2_rs (y : Option (Left' E_q2)) : TRs := bif isE (.exit 2) y then k3_rs (iter st_q3 (((valE (.exit 2) y).1.2.2.2.2.2.1 : Prs).length + 1) (hd_q3 (valE (.exit 2) y).1.1 (valE (.exit 2) y).1.2.1 (valE (.exit 2) y).2.2.1 (valE (.exit 2) y).2.1.2 (valE (.exit 2) y).2.1.1 (valE (.exit 2) y).1.2.2.2.2.1 (valE (.exit 2) y).1.2.2.2.2.2.1 0 (valE (.exit 2) y).1.2.2.2.2.2.2.1)) else .fail
def k1b_rs (v : R_q1.T) (r : RSet) : TRs := bif r.2.2.1 != 0 then .leaf ⟨true, erR r.2.2.1⟩ else k2_rs (iter st_q2 ((v.1.2.2.2.2.2.1 : List Int).length + 1) (hd_q2 v.1.1 v.1.2.1 v.2.2.2.1 v.2.2.1.2 v.1.2.2.2.2.2.1 r.1 r.2.1 [] 0 v.2.2.1.1))
def k1_rs (y : Option (Left' E_q1)) : TRs := bif isE (.exit 0) y then k1b_rs (valE (.exit 0) y) (SettleR (valE (.exit 0) y).1.2.2.2.2.2.2.1 (valE (.exit 0) y).1.2.2.2.2.2.2.2.1 (gmCx (valE (.exit 0) y).2.1).1 (gmCx (valE (.exit 0) y).2.1).2.1) else .fail
def cS (g : TCT cGr) (w fl t : Int) : RT := cQ (grTo g) r0 w fl t
def T_rs (g : TCT cGr) (s : SKTs kSo) (tk sp : Int) : TRs := k1_rs (iter st_q1 ((ballsG g).length + 1) (hd_q1 tk sp (cS g s.2.2.1 s.2.2.2.1 s.2.2.2.2.1) s.1 s.2.1 0 ([], [], [])))
def okRs (g : TCT cGr) (s : SKTs kSo) : Bool := decide (s.1.length = (ballsG g).length) && (decide ((s.2.1 : List Bool).length = (ballsG g).length) && decide ((ballsG g).length ≤ 8))
def seR (g : TCT cGr) (s : SKTs kSo) (tk sp : Int) : MK ⊕ Int := seF (ballsG g) g.2.2.1 tk sp s.2.2.1 s.2.2.2.1 (ballsG g).length (s.1, s.2.1, [])
def Y_rs (x : FL_rs.T) : Option (MK ⊕ Int) := bif okRs x.1.1 x.1.2.1 then some (seR x.1.1 x.1.2.1 x.1.2.2.1 x.1.2.2.2.1) else none
def mk_rs (x : FL_rs.T) (a : MK) (k : (FE_rs true).T → TRs) : TRs := match x.1.2.1 with
  | (_, os, w, fl, t, _) => k (((a.1, os, w, fl, t, ()), a.2, 0, ()), ())
def mk0_rs (x : FL_rs.T) (a : MK) : (FE_rs true).T := (((a.1, x.1.2.1.2), a.2, 0, ()), ())
theorem mk_rs_eq (x : FL_rs.T) (a : MK) (k : (FE_rs true).T → TRs) : mk_rs x a k = k (mk0_rs x a) := rfl
noncomputable def X_rs4 : Ctx := ctxS Tryz.prog plR4 [(63, Tryz.f63), (119, Tryz.f119)] [((63, 5), loopSum L_q1 E_q1 (finX [.exit 0] st_q1 fu_q1)), ((63, 16), loopSum L_q2 E_q2 (finX [.exit 2] st_q2 fu_q2)), ((63, 20), loopSum L_q3 E_q3 (finX [.exit 4] st_q3 fu_q3))] []
theorem X_rs4_ok : CtxOk X_rs4 := ctxS_ok mixed puR4 (fns_cons is_rsettle (fns_cons is_rcounts fns_nil)) (loops_cons (loops_of (ds := [lb_q1, lb_q2, lb_q3]) (by kernel_rfl) ⟨one_key (k := 5) (by kernel_rfl) rfl l_q1, one_key (k := 16) (by kernel_rfl) rfl l_q2, one_key (k := 20) (by kernel_rfl) rfl l_q3, trivial⟩) (loops_cons (loops_none (by kernel_rfl)) loops_nil)) (fun p hp => nomatch hp)
theorem e_rs (x : FL_rs.T) : evBody X_rs4 (evFn X_rs4 6) 63 (ofKs FL_rs.ks x.1 FL_rs.nx) (FL_rs.lay.hp x) (FL_rs.lay.of x).nx (foutK FE_rs) = T_rs x.1.1 x.1.2.1 x.1.2.2.1 x.1.2.2.2.1 := by kernel_rfl
theorem rs_run {x : FL_rs.T} {z : MK ⊕ Int} (h : Y_rs x = some z) : (T_rs x.1.1 x.1.2.1 x.1.2.2.1 x.1.2.2.2.1).run = some (toYl (L := FL_rs) (E := FE_rs) mk0_rs erR x z) := by
  obtain ⟨⟨g, s, tk, sp, ⟨⟩⟩, ⟨⟩⟩ := x
  obtain ⟨ms, os, w, fl, t, ⟨⟩⟩ := s
  unfold Y_rs at h
  simp only at h
  cases ho : okRs g (ms, os, w, fl, t, ()) with
  | false => rw [ho] at h; cases h
  | true =>
    rw [ho] at h
    cases h
    unfold okRs at ho
    simp only [Bool.and_eq_true, decide_eq_true_eq] at ho
    obtain ⟨hm, hos, hn8⟩ := ho
    unfold T_rs
    rw [show iter st_q1 ((ballsG g).length + 1) (hd_q1 tk sp (cS g w fl t) ms os 0 ([], [], [])) = _ from it_q1 (c := cS g w fl t) hn8 hm hos]
    show (k1b_rs ((tk, sp, (), (), (), (seG (ballsG g) w fl (ballsG g).length (ms, os, [])).1, (seG (ballsG g) w fl (ballsG g).length (ms, os, [])).2.1, (seG (ballsG g) w fl (ballsG g).length (ms, os, [])).2.2, ()), bR (cS g w fl t) (ms, os, [])) (seS (ballsG g) g.2.2.1 w fl (ballsG g).length (ms, os, []))).run = some (toYl (L := FL_rs) (E := FE_rs) mk0_rs erR _ (seF (ballsG g) g.2.2.1 tk sp w fl (ballsG g).length (ms, os, [])))
    unfold seF k1b_rs
    cases he : (seS (ballsG g) g.2.2.1 w fl (ballsG g).length (ms, os, [])).2.2.1 != 0 with
    | true => rfl
    | false =>
      have hs := seS_ok (bl := ballsG g) (bc := g.2.2.1) (w := w) (fl := fl) (s := (ms, os, [])) hn8 (bne_eq_false_iff_eq.1 he)
      have hi : InvG (ballsG g).length (ballsG g).length (seG (ballsG g) w fl (ballsG g).length (ms, os, [])) := gaV_inv
      have hik := hi.k
      have h64 := hs.2.1
      simp only [cond_false]
      show (k2_rs (iter st_q2 ((seG (ballsG g) w fl (ballsG g).length (ms, os, [])).1.length + 1) (hd_q2 tk sp r0 (os, w, fl, t, ()) (seG (ballsG g) w fl (ballsG g).length (ms, os, [])).1 (seS (ballsG g) g.2.2.1 w fl (ballsG g).length (ms, os, [])).1 (seS (ballsG g) g.2.2.1 w fl (ballsG g).length (ms, os, [])).2.1 [] 0 ms))).run = _
      rw [it_q2 (z := r0) (q := (os, w, fl, t, ())) hi.r hs.1 hm (by omega)]
      show (k3_rs (iter st_q3 ((seS (ballsG g) g.2.2.1 w fl (ballsG g).length (ms, os, [])).2.1.length + 1) (hd_q3 tk sp r0 (os, w, fl, t, ()) (scV (seG (ballsG g) w fl (ballsG g).length (ms, os, [])).1 (seS (ballsG g) g.2.2.1 w fl (ballsG g).length (ms, os, [])).1 ms) (seG (ballsG g) w fl (ballsG g).length (ms, os, [])).1 (seS (ballsG g) g.2.2.1 w fl (ballsG g).length (ms, os, [])).2.1 0 []))).run = _
      rw [it_q3 hs.2.2 (Nat.zero_le _) (by omega)]
      rfl
def esR : List Int := [2, 4, 6, 17]
theorem seF_es {bl : List (TCT cBall)} {c : TCT cBnc} {t st w fl : Int} {n : Nat} {s : S2} {e : Int} (h : seF bl c t st w fl n s = .inr e) : e ∈ esR := by
  unfold seF at h
  cases he : (seS bl c w fl n s).2.2.1 != 0 with
  | false => rw [he] at h; cases h
  | true =>
    rw [he] at h
    cases h
    have hne := bne_iff_ne.1 he
    unfold seS SettleR at hne ⊢
    unfold esR
    generalize (seG bl w fl n s).2.1 = l at hne ⊢
    generalize (seG bl w fl n s).2.2 = m at hne ⊢
    cases h1 : chkR l m != 0 with
    | true =>
      rw [h1] at hne
      simp only [cond_true] at hne ⊢
      unfold chkR at hne ⊢
      cases hd : decide ((l.length : Int) > 8) with
      | true => simp
      | false =>
        rw [hd] at hne
        simp only [cond_false] at hne ⊢
        cases hq : (l.length : Int) != (m.length : Int) with
        | true => simp
        | false =>
          rw [hq] at hne
          simp only [cond_false] at hne ⊢
          unfold okE at hne ⊢
          cases hz : (l.zip m).all okBM with
          | false => simp
          | true => rw [hz] at hne; exact absurd rfl hne
    | false =>
      rw [h1] at hne
      simp only [cond_false] at hne ⊢
      cases h2 : !bncB c.1 c.2.1 with
      | true => simp
      | false =>
        rw [h2] at hne
        simp only [cond_false] at hne ⊢
        cases h3 : V.okS (outR l c.1 c.2.1 l.length 0 (m, [])) with
        | true => rw [h3] at hne; exact absurd rfl hne
        | false => simp
abbrev spYR (Y : FL_rs.T → Option (MK ⊕ Int)) : SPf := fspec probeA FL_rs FE_rs (finYl Y mk_rs erR esR ([], []))
theorem sp_rs : SpecOk Tryz.prog 63 (spYR Y_rs) := fspecYl X_rs4_ok 6 FE_rs_nx Y_rs mk_rs mk0_rs mk_rs_eq erR esR _ (fun x => T_rs x.1.1 x.1.2.1 x.1.2.2.1 x.1.2.2.2.1) e_rs fun _ _ _ h => rs_run h
end St
end V
end Go.Proofs.YtkiaifmbbnnliaaGreat
