/- The law TopInWay: for all arguments it returns true. -/
import Derived.Test.YtialgmhhkbdegaaWb
namespace Go.Proofs.Ytialgmhhkbdegaa
open Go.RowKit
namespace V
theorem is_TopInWay : FnIs Try.prog (4, Try.f4) := ⟨Try.func4, by kernel_rfl, by kernel_rfl⟩
theorem is_green : FnIs Try.prog (12, Try.f12) := ⟨Try.func12, by kernel_rfl, by kernel_rfl⟩
theorem is_spot : FnIs Try.prog (8, Try.f8) := ⟨Try.func8, by kernel_rfl, by kernel_rfl⟩
abbrev cU16 : TC := .i .u16
abbrev cDot : TC := .st [cU16, cU16]
def plG2 : List (Nat × PureT) := (14, s_InWay) :: plG1
theorem puG2 : PuOk Try.prog plG2 := puOk_cons is_lInWay.plain q_InWay puG1
noncomputable def X_topInWay : Ctx := ctxU 10 Try.prog plG2 ((4, Try.f4) :: allF)
theorem X_topInWay_ok : CtxOk X_topInWay := ctxU_ok mixed puG2 (fns_cons is_TopInWay allF_ok)
abbrev cs_topInWay : List TC := [cDot, cDot, cU16, .b]
/-- a place of the green -/
def dtX (x : Int) : Int := W64 (Int.tdiv (W64 (W64 x * 3)) 2)
def dtY (y : Int) : Int := W64 (W64 y * 3)
def iwR (r : Int) : Int := W64 (1 + Int.tmod (W64 r) 16384)
def iwLp (f : Pst → Bool × Int) (L : List Int) : List Pst → Int → Int → Tree Unit
  | [], _, at' => bif at' == (L.length : Int) then .leaf () else .fail
  | p :: ps, i, at' => bif (f p).2 != 0 then .fail else bif (f p).1 then bif decide (at' ≥ (L.length : Int)) then .fail else bif decide (0 ≤ at' ∧ at' < (L.length : Int)) then
      bif (getA L at'.toNat (dflt cI)) != i then .fail else iwLp f L ps (W64 (i + 1)) (W64 (at' + 1)) else .fail else iwLp f L ps (W64 (i + 1)) at'
def iwC (ax ay bx bY r : Int) (p : Pst) : Bool × Int := CtR ax ay bx bY p.1 p.2.1 (W64 (p.2.2 + r))
def T_tiw (ax ay bx bY r : Int) (t : Bool) : Tree Unit := bif iwE ax ay bx bY r != 0 then .fail else iwLp (iwC ax ay bx bY r) (iwV t ax ay bx bY r) (iwP t) 0 0
def TY_topInWay (y : TCTs cs_topInWay) : Tree Unit := bif y.2.2.2.1 then T_tiw (dtX y.1.1) (dtY y.1.2.1) (dtX y.2.1.1) (dtY y.2.1.2.1) (iwR y.2.2.1) true else T_tiw (dtX y.1.1) (dtY y.1.2.1) (dtX y.2.1.1) (dtY y.2.1.2.1) (iwR y.2.2.1) false
theorem TY_topInWay_eq (x : TCTs cs_topInWay) : evFn X_topInWay 12 (.fn 4) (encAs cs_topInWay x) noHeap 0 lawK = TY_topInWay x := by kernel_rfl
/-! the plain law -/
theorem dtX_in {x : Int} (h : 0 ≤ x ∧ x ≤ 65535) : 0 ≤ dtX x ∧ dtX x ≤ 98303 := by
  unfold dtX
  rw [W64_id (n := x) (by omega) (by omega), W64_id (n := x * 3) (by omega) (by omega), Int.tdiv_eq_ediv_of_nonneg (by omega), W64_id (by omega) (by omega)]
  omega
theorem dtY_in {y : Int} (h : 0 ≤ y ∧ y ≤ 65535) : 0 ≤ dtY y ∧ dtY y ≤ 196605 := by
  unfold dtY
  rw [W64_id (n := y) (by omega) (by omega), W64_id (n := y * 3) (by omega) (by omega)]
  omega
theorem iwR_in {r : Int} (h : 0 ≤ r ∧ r ≤ 65535) : 1 ≤ iwR r ∧ iwR r ≤ 16384 := by
  unfold iwR
  rw [W64_id (n := r) (by omega) (by omega), Int.tmod_eq_emod_of_nonneg h.1, W64_id (by omega) (by omega)]
  omega
theorem fpt_of {x y : Int} (h : 0 ≤ x ∧ x ≤ 98303) (k : 0 ≤ y ∧ y ≤ 196605) : fpt x y = true := decide_eq_true (by omega)
/-- a post of the green -/
def okPst (p : Pst) : Bool := decide (0 ≤ p.1 ∧ p.1 ≤ 98303 ∧ 0 ≤ p.2.1 ∧ p.2.1 ≤ 196605 ∧ 1 ≤ p.2.2 ∧ p.2.2 ≤ 1200)
theorem iwP_ok (t : Bool) : ∀ p ∈ iwP t, okPst p = true := by
  have : (iwP t).all okPst = true := by cases t <;> decide
  exact List.all_eq_true.1 this
theorem iwC_ok {ax ay bx bY r : Int} (ha : fpt ax ay = true) (hb : fpt bx bY = true) (hr : 1 ≤ r ∧ r ≤ 16384) {p : Pst} (hp : okPst p = true) : iwC ax ay bx bY r p = (iwT ax ay bx bY r p, 0) := by
  have h := of_decide_eq_true hp
  obtain ⟨x, y, q⟩ := p
  simp only at h
  have hf : fpt x y = true := fpt_of (by omega) (by omega)
  unfold iwC iwT
  simp only
  rw [W64_id (n := q + r) (by omega) (by omega), W64_id (n := r + q) (by omega) (by omega), Int.add_comm q r]
  have hc : cdOk x y (r + q) = true := by
    unfold cdOk outB
    rw [hf, decide_eq_false (show ¬ r + q < 1 by omega), decide_eq_false (show ¬ 65536 < r + q by omega)]; rfl
  have ho : outB (r + q) 0 8388608 = false := by
    unfold outB
    rw [decide_eq_false (show ¬ r + q < 0 by omega), decide_eq_false (show ¬ 8388608 < r + q by omega)]; rfl
  unfold CtR LsR
  rw [ha, hb, hc, hf, ho]
  rfl
theorem iwLp_ok {f : Pst → Bool × Int} {c : Pst → Bool} {L : List Int} : ∀ (ps : List Pst) (i at' : Nat), (∀ p ∈ ps, f p = (c p, 0)) → i + ps.length ≤ 100 → at' ≤ i → at' ≤ L.length → L.drop at' = iwF c ps (i : Int) → (iwLp f L ps (i : Int) (at' : Int)).sat (fun _ => True)
  | [], i, a, _, _, _, hl, hd => by
    unfold iwLp
    have h0 : L.length - a = 0 := by rw [← List.length_drop, hd]; rfl
    have : ((a : Int) == (L.length : Int)) = true := by simp; omega
    rw [this]
    trivial
  | p :: ps, i, a, hf, hi, hai, hl, hd => by
    unfold iwLp
    rw [List.length_cons] at hi
    have e1 : W64 ((i : Int) + 1) = ((i + 1 : Nat) : Int) := W64_id (by omega) (by omega)
    have e2 : W64 ((a : Int) + 1) = ((a + 1 : Nat) : Int) := W64_id (by omega) (by omega)
    rw [hf p (List.mem_cons_self ..), e1, e2]
    unfold iwF at hd
    have hps : ∀ q ∈ ps, f q = (c q, 0) := fun q hq => hf q (List.mem_cons_of_mem _ hq)
    cases hc : c p with
    | false =>
      rw [hc, cond_false] at hd
      exact iwLp_ok ps (i + 1) a hps (by omega) (by omega) hl hd
    | true =>
      rw [hc, cond_true] at hd
      have hlt : a < L.length := by
        by_cases h : a < L.length
        · exact h
        · rw [List.drop_eq_nil_of_le (by omega)] at hd; cases hd
      rw [List.drop_eq_getElem_cons hlt] at hd
      have hh := (List.cons.inj hd)
      have ht : (a : Int).toNat = a := by omega
      show (bif (0 : Int) != 0 then _ else bif true then bif decide ((a : Int) ≥ (L.length : Int)) then _ else bif decide (0 ≤ (a : Int) ∧ (a : Int) < (L.length : Int)) then bif (getA L (a : Int).toNat (dflt cI)) != (i : Int) then _ else _ else _ else _ : Tree Unit).sat _
      rw [decide_eq_false (show ¬ (a : Int) ≥ (L.length : Int) by omega), decide_eq_true (show 0 ≤ (a : Int) ∧ (a : Int) < (L.length : Int) by omega), ht, getA_lt hlt, hh.1]
      simp only [bne_self_eq_false, cond_false, cond_true]
      exact iwLp_ok ps (i + 1) (a + 1) hps (by omega) (by omega) hlt hh.2
theorem T_tiw_ok {ax ay bx bY r : Int} (ha : fpt ax ay = true) (hb : fpt bx bY = true) (hr : 1 ≤ r ∧ r ≤ 16384) (t : Bool) : (T_tiw ax ay bx bY r t).sat (fun _ => True) := by
  have he : iwE ax ay bx bY r = 0 := by
    unfold iwE u_ck
    rw [ha, hb, decide_eq_true hr]
    rfl
  unfold T_tiw
  rw [he]
  have hv : iwV t ax ay bx bY r = iwF (iwT ax ay bx bY r) (iwP t) 0 := by unfold iwV; rw [he]; rfl
  rw [hv]
  refine iwLp_ok (c := iwT ax ay bx bY r) (iwP t) 0 0 (fun p hp => iwC_ok ha hb hr (iwP_ok t p hp)) ?_ (Nat.le_refl _) (Nat.zero_le _) rfl
  cases t <;> decide
theorem u16_in {x : Int} (h : WFD cU16 x) : 0 ≤ x ∧ x ≤ 65535 := h
theorem topInWay_sat : LawSat X_topInWay 4 cs_topInWay 12 := lawSat 12 TY_topInWay TY_topInWay_eq (fun y hy => by
  obtain ⟨⟨d1, d2, ⟨⟩⟩, ⟨t1, t2, ⟨⟩⟩, r, t, ⟨⟩⟩ := y
  obtain ⟨⟨h1, h2, _⟩, ⟨h3, h4, _⟩, h5, _⟩ := hy
  have ha := fpt_of (dtX_in (u16_in h1)) (dtY_in (u16_in h2))
  have hb := fpt_of (dtX_in (u16_in h3)) (dtY_in (u16_in h4))
  have hr := iwR_in (u16_in h5)
  cases t with
  | true => exact T_tiw_ok ha hb hr true
  | false => exact T_tiw_ok ha hb hr false)
end V
end Go.Proofs.Ytialgmhhkbdegaa
