/- The law TopRecorded. -/
import Derived.Test.YtialgmhhkbdegaaGreatYc
namespace Go.Proofs.YtialgmhhkbdegaaGreat
open Go.RowKit
namespace V
theorem is_tRecorded : FnIs Tryz.prog (3, Tryz.f3) := ⟨Tryz.func3, by kernel_rfl, by kernel_rfl⟩
abbrev cs_topRecorded : List TC := [cCo, cu16, cu16, cu6]
noncomputable def plRec : List (Nat × PureT) := [(5, s_board), (6, s_Ch), (7, s_Val), (8, s_works)]
theorem puRec : PuOk Tryz.prog plRec := puOk_cons is_board.plain q_board (puOk_cons is_tChance.plain q_tC (puOk_cons is_tValue.plain q_Val (puOk_cons is_works09.plain q_works09 puOk_nil (panOk_none rfl)) (panOk_none rfl)) (panOk_none rfl)) (panOk_none rfl)
noncomputable def X_topRecorded : Ctx := ctxU 8 Tryz.prog plRec [(3, Tryz.f3)]
theorem X_topRecorded_ok : CtxOk X_topRecorded := ctxU_ok mixed puRec (fns_cons is_tRecorded fns_nil)
def nRc (t : Int) : Int := W64 (1 + Int.tmod (W64 t) 500)
def hRc (t h : Int) : Int := Int.tmod (W64 h) (W64 (nRc t + 1))
def kRc (t m h : Int) : Int := min (nRc t) (W64 (hRc t h + Int.tmod (W64 m) 50))
def xRc (t h : Int) : Ch := cF (hRc t h) (nRc t) 5
def yRc (t m h : Int) : Ch := cF (kRc t m h) (nRc t) 5
def stRc (t m h : Int) (k : Tree Unit) : Tree Unit := bif W64 (nRc t + 1) != 0 then bif recE (hRc t h) (nRc t) 5 != 0 then .fail else bif recE (kRc t m h) (nRc t) 5 != 0 then .fail else
  bif decide ((yRc t m h).1 < (xRc t h).1) then .fail else bif decide ((yRc t m h).2 < (xRc t h).2) then .fail else k else .fail
def c2 (x : Ch) : TCT cC := (x.1, x.2, ())
def boRc (wd : Int) (hs : List Int) (x0 x1 x2 x3 x4 x5 : Ch) : TCT cB := (2, wd, hs, (c2 x0, c2 x1, c2 x2, ()), (c2 x3, c2 x4, c2 x5, ()), ())
def endRc (b d : TCT cB) (s : TCT cSc) : Tree Unit := bif sceneE b s == 0 then bif sceneE d s == 0 then bif decide ((valF d s).1 ≥ (valF b s).1) then bif decide ((valF d s).2.1 ≥ (valF b s).2.1) then .leaf () else .fail else .fail else .fail else .fail
def T_Rc (wd : Int) (hs : List Int) (s : TCT cSc) (t m h0 h1 h2 h3 h4 h5 : Int) : Tree Unit :=
  stRc t m h0 (stRc t m h1 (stRc t m h2 (stRc t m h3 (stRc t m h4 (stRc t m h5
    (endRc (boRc wd hs (xRc t h0) (xRc t h1) (xRc t h2) (xRc t h3) (xRc t h4) (xRc t h5)) (boRc wd hs (yRc t m h0) (yRc t m h1) (yRc t m h2) (yRc t m h3) (yRc t m h4) (yRc t m h5)) s))))))
def TY_topRecorded (y : TCTs cs_topRecorded) : Tree Unit := T_Rc (bF y.1).1.2.1 (bF y.1).1.2.2.1 (mkS (bF y.1).2) y.2.1 y.2.2.1 y.2.2.2.1.1 y.2.2.2.1.2.1 y.2.2.2.1.2.2.1 y.2.2.2.1.2.2.2.1 y.2.2.2.1.2.2.2.2.1 y.2.2.2.1.2.2.2.2.2.1
theorem TY_topRecorded_eq (y : TCTs cs_topRecorded) : evFn X_topRecorded 8 (.fn 3) (encAs cs_topRecorded y) noHeap 0 lawK = TY_topRecorded y := by kernel_rfl
theorem tmod_in0 {a b : Int} (ha : 0 ≤ a) (hb : 0 < b) : 0 ≤ Int.tmod a b ∧ Int.tmod a b < b := ⟨Int.tmod_nonneg _ ha, Int.tmod_lt_of_pos _ hb⟩
theorem nRc_bd {t : Int} (ht : 0 ≤ t ∧ t ≤ 65535) : 1 ≤ nRc t ∧ nRc t ≤ 500 := by
  unfold nRc
  rw [W64_id (n := t) (by omega) (by omega)]
  have := tmod_in0 (b := 500) ht.1 (by omega)
  rw [W64_id (by omega) (by omega)]
  omega
theorem hRc_bd {t h : Int} (ht : 0 ≤ t ∧ t ≤ 65535) (hh : 0 ≤ h ∧ h ≤ 65535) : 0 ≤ hRc t h ∧ hRc t h ≤ nRc t := by
  have hn := nRc_bd ht
  unfold hRc
  rw [W64_id (n := h) (by omega) (by omega), W64_id (n := nRc t + 1) (by omega) (by omega)]
  have := tmod_in0 (b := nRc t + 1) hh.1 (by omega)
  omega
theorem kRc_bd {t m h : Int} (ht : 0 ≤ t ∧ t ≤ 65535) (hm : 0 ≤ m ∧ m ≤ 65535) (hh : 0 ≤ h ∧ h ≤ 65535) : hRc t h ≤ kRc t m h ∧ kRc t m h ≤ nRc t := by
  have hn := nRc_bd ht
  have h1 := hRc_bd ht hh
  unfold kRc
  rw [W64_id (n := m) (by omega) (by omega)]
  have := tmod_in0 (b := 50) hm.1 (by omega)
  rw [W64_id (by omega) (by omega)]
  omega
theorem recOk_of {h t : Int} (h0 : 0 ≤ h) (h1 : h ≤ t) (h2 : t ≤ 500) : recOk h t 5 = true := decide_eq_true (by omega)
theorem rec_mono {h k t : Int} (h0 : 0 ≤ h) (h1 : h ≤ k) (h2 : k ≤ t) (h3 : t ≤ 500) : Mo.Le2 (cF h t 5) (cF k t 5) := by
  unfold cF
  rw [recOk_of h0 (by omega) h3, recOk_of (by omega) h2 h3]
  exact ⟨Int.ediv_le_ediv (by omega) (by omega), Int.ediv_le_ediv (by omega) (by omega)⟩
theorem rec_valid {h t : Int} (h0 : 0 ≤ h) (h1 : h ≤ t) (h3 : t ≤ 500) : validC (cF h t 5) = true := by
  unfold cF
  rw [recOk_of h0 h1 h3]
  refine decide_eq_true ?_
  show 0 ≤ h * 1000000 / (t + 5) ∧ h * 1000000 / (t + 5) ≤ ((h + 5) * 1000000 + (t + 5) - 1) / (t + 5) ∧ ((h + 5) * 1000000 + (t + 5) - 1) / (t + 5) ≤ 1000000
  refine ⟨Int.ediv_nonneg (by omega) (by omega), Int.ediv_le_ediv (by omega) (by omega), ?_⟩
  have : ((h + 5) * 1000000 + (t + 5) - 1) / (t + 5) < 1000001 := Int.ediv_lt_of_lt_mul (by omega) (by omega)
  omega
/-- what is known of one of the six chances -/
structure RcOk (x y : Ch) : Prop where
  le : Mo.Le2 x y
  vx : validC x = true
  vy : validC y = true
theorem stRc_ok {t m h : Int} (ht : 0 ≤ t ∧ t ≤ 65535) (hm : 0 ≤ m ∧ m ≤ 65535) (hh : 0 ≤ h ∧ h ≤ 65535) : RcOk (xRc t h) (yRc t m h) ∧ ∀ k, stRc t m h k = k := by
  have hn := nRc_bd ht
  have h1 := hRc_bd ht hh
  have h2 := kRc_bd ht hm hh
  have hle : Mo.Le2 (xRc t h) (yRc t m h) := rec_mono h1.1 h2.1 h2.2 hn.2
  refine ⟨⟨hle, rec_valid h1.1 h1.2 hn.2, rec_valid (by omega) h2.2 hn.2⟩, fun k => ?_⟩
  unfold stRc recE
  rw [recOk_of h1.1 h1.2 hn.2, recOk_of (by omega) h2.2 hn.2, decide_eq_false (show ¬ (yRc t m h).1 < (xRc t h).1 by have := hle.1; omega), decide_eq_false (show ¬ (yRc t m h).2 < (xRc t h).2 by have := hle.2; omega)]
  have : (W64 (nRc t + 1) != 0) = true := by
    rw [W64_id (by omega) (by omega), bne_iff_ne]
    omega
  rw [this]
  rfl
theorem hs1_in {n x : Int} (hn : 1 ≤ n) (hx : 0 ≤ x ∧ x ≤ 255) : 0 ≤ hs1 n x ∧ hs1 n x < n := by
  unfold hs1
  rw [W64_id (by omega) (by omega)]
  exact tmod_in0 hx.1 (by omega)
theorem hsF_in {n : Int} (hn : 1 ≤ n) : ∀ {l : List Int}, (∀ x ∈ l, 0 ≤ x ∧ x ≤ 255) → (1 ≤ (hsF n l).length ∧ (hsF n l).length ≤ 3) ∧ ∀ x ∈ hsF n l, 0 ≤ x ∧ x < n
  | [], _ => ⟨by simp [hsF], fun x hx => by simp only [hsF, List.mem_singleton] at hx; omega⟩
  | [a], h => ⟨by simp [hsF], fun x hx => by
    simp only [hsF, List.mem_singleton] at hx
    subst hx
    exact hs1_in hn (h a (by simp))⟩
  | [a, b], h => ⟨by simp [hsF], fun x hx => by
    simp only [hsF, List.mem_cons, List.mem_singleton, List.not_mem_nil, or_false] at hx
    rcases hx with rfl | rfl
    · exact hs1_in hn (h a (by simp))
    · exact hs1_in hn (h b (by simp))⟩
  | a :: b :: c :: l, h => ⟨by simp [hsF], fun x hx => by
    simp only [hsF, List.mem_cons, List.not_mem_nil, or_false] at hx
    rcases hx with rfl | rfl | rfl
    · exact hs1_in hn (h a (by simp))
    · exact hs1_in hn (h b (by simp))
    · exact hs1_in hn (h c (by simp))⟩
theorem bOk_of {b : TCT cB} {n : Int} (hd : b.1 = 2) (hw : b.2.1 = 1 ∧ n = 2 ∨ b.2.1 = 2 ∧ n = 4) (hl : 1 ≤ (b.2.2.1 : List Int).length ∧ (b.2.2.1 : List Int).length ≤ 3) (hs : ∀ x ∈ (b.2.2.1 : List Int), 0 ≤ x ∧ x < n) (hr : runsOk b.2.2.2.1 = true) (hh : runsOk b.2.2.2.2.1 = true) : bOk b = true ∧ cellsF b = n := by
  have hc : cellsF b = n := by
    have e : cellsF b = W64 (b.1 * b.2.1) := rfl
    rw [e, hd]
    rcases hw with ⟨h1, h2⟩ | ⟨h1, h2⟩ <;> rw [h1, h2] <;> decide
  refine ⟨?_, hc⟩
  unfold bOk
  rw [hr, hh]
  have h1 : dimOk b.1 b.2.1 ((b.2.2.1 : List Int).length : Int) = true := by
    refine decide_eq_true ?_
    rw [hd]
    rcases hw with ⟨h1, _⟩ | ⟨h1, _⟩ <;> rw [h1] <;> omega
  rw [h1]
  have h2 : (b.2.2.1 : List Int).all (cellOk b) = true := List.all_eq_true.2 fun x hx => by
    unfold cellOk
    rw [hc]
    exact decide_eq_true (hs x hx)
  simp only [Bool.true_and, Bool.and_true]
  exact h2
theorem endRc_ok {b d : TCT cB} {s : TCT cSc} (hb : bOk b = true) (hd : bOk d = true) (hpb : placeOk b s = true) (hpd : placeOk d s = true) (h : Mo.LeB b d) : endRc b d s = .leaf () := by
  have k := Mo.Val_in (okB_of hb) (okB_of hd) h (place_okP hpd)
  unfold endRc sceneE valF
  rw [hb, hd, hpb, hpd]
  simp only [Bool.and_self, cond_true, beq_self_eq_true]
  rw [decide_eq_true (show (Val d (placeF s)).1 ≥ (Val b (placeF s)).1 from k.1), decide_eq_true (show (Val d (placeF s)).2.1 ≥ (Val b (placeF s)).2.1 from k.2)]
  rfl
theorem place_of {b : TCT cB} {s : TCT cSc} {n : Int} (hc : cellsF b = n) (h1 : 0 ≤ s.1 ∧ s.1 < n) (h2 : 0 ≤ s.2.1 ∧ s.2.1 ≤ ((b.2.2.1 : List Int).length : Int)) (h3 : (s.2.2.1 : List Int).length ≤ 2) (h4 : (s.2.2.2.1 : List Bool).length = (s.2.2.1 : List Int).length) (h5 : ∀ x ∈ (s.2.2.1 : List Int), 0 ≤ x ∧ x < n) : placeOk b s = true := by
  unfold placeOk cellOk
  rw [hc, decide_eq_true h1, decide_eq_true h2, decide_eq_true (show ((s.2.2.1 : List Int).length : Int) ≤ 2 by omega), decide_eq_true (show ((s.2.2.2.1 : List Bool).length : Int) = (s.2.2.1 : List Int).length by omega)]
  simp only [Bool.true_and]
  exact List.all_eq_true.2 fun x hx => decide_eq_true (h5 x hx)
theorem hop_in {h : Int} {l : Nat} (hh : 0 ≤ h ∧ h ≤ 255) (hl : l ≤ 3) : 0 ≤ Int.tmod (W64 h) (W64 ((l : Int) + 1)) ∧ Int.tmod (W64 h) (W64 ((l : Int) + 1)) ≤ l := by
  rw [W64_id (n := h) (by omega) (by omega), W64_id (by omega) (by omega)]
  have := tmod_in0 (b := (l : Int) + 1) hh.1 (by omega)
  omega
theorem T_Rc_ok {wd n : Int} {hs : List Int} {s : TCT cSc} {t m h0 h1 h2 h3 h4 h5 : Int} (hw : wd = 1 ∧ n = 2 ∨ wd = 2 ∧ n = 4) (hl : 1 ≤ hs.length ∧ hs.length ≤ 3) (hhs : ∀ x ∈ hs, 0 ≤ x ∧ x < n)
    (s1 : 0 ≤ s.1 ∧ s.1 < n) (s2 : 0 ≤ s.2.1 ∧ s.2.1 ≤ (hs.length : Int)) (s3 : (s.2.2.1 : List Int).length ≤ 2) (s4 : (s.2.2.2.1 : List Bool).length = (s.2.2.1 : List Int).length) (s5 : ∀ x ∈ (s.2.2.1 : List Int), 0 ≤ x ∧ x < n)
    (ht : 0 ≤ t ∧ t ≤ 65535) (hm : 0 ≤ m ∧ m ≤ 65535) (k0 : 0 ≤ h0 ∧ h0 ≤ 65535) (k1 : 0 ≤ h1 ∧ h1 ≤ 65535) (k2 : 0 ≤ h2 ∧ h2 ≤ 65535) (k3 : 0 ≤ h3 ∧ h3 ≤ 65535) (k4 : 0 ≤ h4 ∧ h4 ≤ 65535) (k5 : 0 ≤ h5 ∧ h5 ≤ 65535) :
    (T_Rc wd hs s t m h0 h1 h2 h3 h4 h5).sat (fun _ => True) := by
  obtain ⟨a0, e0⟩ := stRc_ok ht hm k0
  obtain ⟨a1, e1⟩ := stRc_ok ht hm k1
  obtain ⟨a2, e2⟩ := stRc_ok ht hm k2
  obtain ⟨a3, e3⟩ := stRc_ok ht hm k3
  obtain ⟨a4, e4⟩ := stRc_ok ht hm k4
  obtain ⟨a5, e5⟩ := stRc_ok ht hm k5
  unfold T_Rc
  rw [e0, e1, e2, e3, e4, e5]
  have r3 : ∀ {x y z : Ch}, validC x = true → validC y = true → validC z = true → runsOk (c2 x, c2 y, c2 z, ()) = true := fun {x y z} hx hy hz => by
    have e : ∀ u : Ch, un (c2 u) = u := fun u => rfl
    unfold runsOk
    simp only [e, hx, hy, hz, Bool.and_self]
  obtain ⟨hb, hc⟩ := bOk_of (b := boRc wd hs (xRc t h0) (xRc t h1) (xRc t h2) (xRc t h3) (xRc t h4) (xRc t h5)) rfl hw hl hhs (r3 a0.vx a1.vx a2.vx) (r3 a3.vx a4.vx a5.vx)
  obtain ⟨hd, hc'⟩ := bOk_of (b := boRc wd hs (yRc t m h0) (yRc t m h1) (yRc t m h2) (yRc t m h3) (yRc t m h4) (yRc t m h5)) rfl hw hl hhs (r3 a0.vy a1.vy a2.vy) (r3 a3.vy a4.vy a5.vy)
  rw [endRc_ok hb hd (place_of hc s1 s2 s3 s4 s5) (place_of hc' s1 s2 s3 s4 s5) ⟨rfl, rfl, rfl, ⟨a0.le, a1.le, a2.le⟩, ⟨a3.le, a4.le, a5.le⟩⟩]
  trivial
theorem cu16_in {x : Int} (h : WFD cu16 x) : 0 ≤ x ∧ x ≤ 65535 := h
theorem cu8_in {x : Int} (h : WFD cu8 x) : 0 ≤ x ∧ x ≤ 255 := h
/-- what is known of a board and a scene by small numbers -/
structure BoOk (b : TCT cB) (s : TCT cSc) (n : Int) : Prop where
  d : b.1 = 2
  w : b.2.1 = 1 ∧ n = 2 ∨ b.2.1 = 2 ∧ n = 4
  l : 1 ≤ (b.2.2.1 : List Int).length ∧ (b.2.2.1 : List Int).length ≤ 3
  hs : ∀ x ∈ (b.2.2.1 : List Int), 0 ≤ x ∧ x < n
  s1 : 0 ≤ s.1 ∧ s.1 < n
  s2 : 0 ≤ s.2.1 ∧ s.2.1 ≤ ((b.2.2.1 : List Int).length : Int)
  s3 : (s.2.2.1 : List Int).length ≤ 2
  s4 : (s.2.2.2.1 : List Bool).length = (s.2.2.1 : List Int).length
  s5 : ∀ x ∈ (s.2.2.1 : List Int), 0 ≤ x ∧ x < n
theorem boF_ok {hs : List Int} {r t : TCT cu3} {m : TCT cu6} {a h p q : Int} {da db ob w : Bool} (h1 : ∀ x ∈ hs, 0 ≤ x ∧ x ≤ 255) (h2 : 0 ≤ a ∧ a ≤ 255) (h3 : 0 ≤ h ∧ h ≤ 255) (h4 : 0 ≤ p ∧ p ≤ 255) (h5 : 0 ≤ q ∧ q ≤ 255) :
    BoOk (boF hs r t m a h p q da db ob w).1 (boF hs r t m a h p q da db ob w).2 (bif w then 4 else 2) := by
  have hn : (1 : Int) ≤ (bif w then 4 else 2) := by cases w <;> decide
  obtain ⟨k1, k2⟩ := hsF_in hn h1
  refine ⟨rfl, ?_, k1, k2, hs1_in hn h2, hop_in h3 k1.2, ?_, ?_, ?_⟩
  · cases w with
    | true => exact .inr ⟨rfl, rfl⟩
    | false => exact .inl ⟨rfl, rfl⟩
  · cases ob <;> simp [boF, boS]
  · cases ob <;> simp [boF, boS]
  · intro x hx
    cases ob with
    | true =>
      simp only [boF, boS, Bool.not_true, cond_false, List.mem_singleton] at hx
      subst hx
      exact hs1_in hn h4
    | false =>
      simp only [boF, boS, Bool.not_false, cond_true, List.mem_cons, List.not_mem_nil, or_false] at hx
      rcases hx with rfl | rfl
      · exact hs1_in hn h4
      · exact hs1_in hn h5
theorem bF_ok {c : TCT cCo} (h : WFD cCo c) : ∃ n, BoOk (bF c).1 (bF c).2 n := by
  obtain ⟨hs, r, t, m, a, hh, p, q, da, db, ob, w, ⟨⟩⟩ := c
  obtain ⟨h1, _, _, _, h2, h3, h4, h5, _⟩ := h
  exact ⟨_, boF_ok (fun x hx => cu8_in (wfl_mem h1 x hx)) (cu8_in h2) (cu8_in h3) (cu8_in h4) (cu8_in h5)⟩
theorem topRecorded_sat : LawSat X_topRecorded 3 cs_topRecorded 8 := lawSat 8 TY_topRecorded TY_topRecorded_eq (fun y hy => by
  obtain ⟨c, t, m, ⟨x0, x1, x2, x3, x4, x5, ⟨⟩⟩, ⟨⟩⟩ := y
  obtain ⟨hc, ht, hm, ⟨g0, g1, g2, g3, g4, g5, _⟩, _⟩ := hy
  obtain ⟨n, hb⟩ := bF_ok hc
  exact T_Rc_ok (s := mkS (bF c).2) hb.w hb.l hb.hs hb.s1 hb.s2 hb.s3 hb.s4 hb.s5 (cu16_in ht) (cu16_in hm) (cu16_in g0) (cu16_in g1) (cu16_in g2) (cu16_in g3) (cu16_in g4) (cu16_in g5))
end V
end Go.Proofs.YtialgmhhkbdegaaGreat
