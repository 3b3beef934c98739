/- The law TopTouched: for all arguments it returns true. -/
import Derived.Test.YtialgmhhkbdegaaWp
namespace Go.Proofs.Ytialgmhhkbdegaa
open Go.RowKit
namespace V
theorem sign_le' {z : Int} (h : z ≤ 0) : z.sign ≤ 0 := by
  rcases Int.lt_trichotomy z 0 with h2 | h2 | h2
  · rw [Int.sign_eq_neg_one_of_neg h2]; decide
  · rw [h2]; decide
  · omega
/-- a motion of a ball of the green is valid -/
def okM (q : TCT cMot) : Bool := (bm tB q).ok
theorem tcA_eq {s : Ms} (hs : ∀ q ∈ s, okM q = true) {i k : Nat} (hi : i < s.length) (hk : k < s.length) : tcA s i k = ((sq (getA s i dM).1.1 (getA s i dM).1.2.1 (getA s k dM).1.1 (getA s k dM).1.2.1 - 5892 * 5892).sign, 0) := by
  have f : ∀ i, i < s.length → fpt (getA s i dM).1.1 (getA s i dM).1.2.1 = true := fun i hi => by
    have := hs (getA s i dM) (by rw [getA_lt hi]; exact List.getElem_mem hi)
    exact (Bm.fit this).p
  unfold tcA TcR cdOk
  have a := f i hi
  have b := f k hk
  rw [show fpt (getA s i (dflt cMot)).1.1 (getA s i (dflt cMot)).1.2.1 = true from a, show fpt (getA s k (dflt cMot)).1.1 (getA s k (dflt cMot)).1.2.1 = true from b]
  rfl
theorem sq_sym (a b c d : Int) : sq a b c d = sq c d a b := by unfold sq; grind
/-- apart from the first of the others -/
def apF (s : Ms) (i : Nat) : Nat → Bool
  | 0 => true
  | k + 1 => bif apF s i k then (bif (k : Int) == (i : Int) then true else decide ((tcA s i k).1 > 0)) else false
theorem apF_all {s : Ms} {i : Nat} : ∀ (n : Nat), apF s i n = true → ∀ k, k < n → k ≠ i → (tcA s i k).1 > 0
  | 0, _, k, h, _ => by omega
  | n + 1, h, k, hk, hne => by
    unfold apF at h
    cases ha : apF s i n with
    | false => rw [ha] at h; cases h
    | true =>
      rw [ha, cond_true] at h
      by_cases e : k = n
      · subst e
        cases hb : (k : Int) == (i : Int) with
        | true => have := eq_of_beq hb; omega
        | false => rw [hb, cond_false] at h; exact of_decide_eq_true h
      · exact apF_all n ha k (by omega) hne
theorem y_o2_eq {s : Ms} (hs : ∀ q ∈ s, okM q = true) (hl : s.length ≤ 6) (o : Ms) (p : Ps) {i : Nat} (hi : i < s.length) : y_o2 s o p (i : Int) = some (ex_o2 s o p (i : Int) (apF s i s.length)) := by
  unfold y_o2
  refine iter_to (st := stg_o2) (fun k => hd_o2 s o p (i : Int) (apF s i k) (k : Int)) (ex_o2 s o p (i : Int) (apF s i s.length)) s.length ?_ ?_ s.length 0 (by omega) (by omega)
  · intro k hk
    show (st_o2 s o p (i : Int) (apF s i k) (k : Int)).run = _
    unfold st_o2
    have e2 : (tcA s (i : Int).toNat (k : Int).toNat).2 = 0 := by rw [show (i : Int).toNat = i by omega, show (k : Int).toNat = k by omega, tcA_eq hs hi hk]
    rw [decide_eq_true (show (k : Int) < (s.length : Int) by omega), decide_eq_true (show 0 ≤ (i : Int) ∧ (i : Int) < (s.length : Int) by omega), decide_eq_true (show 0 ≤ (k : Int) ∧ (k : Int) < (s.length : Int) by omega), e2,
      show W64 ((k : Int) + 1) = ((k + 1 : Nat) : Int) from (W64_id (by omega) (by omega)).trans (by omega)]
    have es : apF s i (k + 1) = bif apF s i k then (bif (k : Int) == (i : Int) then true else decide ((tcA s i k).1 > 0)) else false := rfl
    rw [es, show (i : Int).toNat = i by omega, show (k : Int).toNat = k by omega]
    cases apF s i k with
    | false => rfl
    | true => cases (k : Int) == (i : Int) <;> rfl
  · show (st_o2 s o p (i : Int) (apF s i s.length) (s.length : Int)).run = _
    unfold st_o2
    rw [decide_eq_false (show ¬ (s.length : Int) < (s.length : Int) by omega)]
    rfl
theorem eqM6_self (a : TCT cMot) : eqM6 a a = true := by simp [eqM6]
theorem y_o1_eq {s : Ms} (hs : ∀ q ∈ s, okM q = true) (hl : s.length ≤ 6) {o : Ms} (p : Ps) (hol : o.length = s.length) (hap : ∀ i, i < s.length → apF s i s.length = true → getA o i dM = getA s i dM) : y_o1 s o p = some (ex_o1 s p) := by
  unfold y_o1
  refine iter_to (st := stg_o1) (fun i => hd_o1 s o p (i : Int)) (ex_o1 s p) s.length ?_ ?_ s.length 0 (by omega) (by omega)
  · intro i hi
    show (st_o1 s o p (i : Int)).run = _
    unfold st_o1
    rw [decide_eq_true (show (i : Int) < (s.length : Int) by omega), y_o2_eq hs hl o p hi]
    show (aft_o1 s o p (i : Int) (apF s i s.length)).run = _
    unfold aft_o1
    rw [show W64 ((i : Int) + 1) = ((i + 1 : Nat) : Int) from (W64_id (by omega) (by omega)).trans (by omega)]
    cases ha : apF s i s.length with
    | false => rfl
    | true =>
      have e := hap i hi ha
      rw [decide_eq_true (show 0 ≤ (i : Int) ∧ (i : Int) < (o.length : Int) by omega), decide_eq_true (show 0 ≤ (i : Int) ∧ (i : Int) < (s.length : Int) by omega), show (i : Int).toNat = i by omega, show getA o i (dflt cMot) = getA s i (dflt cMot) from e, eqM6_self]
      rfl
  · show (st_o1 s o p (s.length : Int)).run = _
    unfold st_o1
    rw [decide_eq_false (show ¬ (s.length : Int) < (s.length : Int) by omega)]
    rfl
theorem y_o3_eq {s : Ms} (hs : ∀ q ∈ s, okM q = true) {p : Ps} (hpl : p.length ≤ 1000000) (hp : ∀ x ∈ p, ∃ j k : Nat, x = ((j : Int), (k : Int), ()) ∧ j < k ∧ k < s.length ∧ (tcA s j k).1 ≤ 0) : y_o3 s p = some ex_o3 := by
  unfold y_o3
  refine iter_to (st := stg_o3) (fun i => hd_o3 s p (i : Int)) ex_o3 p.length ?_ ?_ p.length 0 (by omega) (by omega)
  · intro i hi
    show (st_o3 s p (i : Int)).run = _
    unfold st_o3
    obtain ⟨j, k, e, hjk, hk, ht⟩ := hp (getA p i (dflt cPair)) (by rw [getA_lt hi]; exact List.getElem_mem hi)
    have t2 : (tcA s j k).2 = 0 := by rw [tcA_eq hs (by omega) hk]
    rw [show (i : Int).toNat = i by omega, e]
    rw [decide_eq_true (show (i : Int) < (p.length : Int) by omega), decide_eq_true (show 0 ≤ (i : Int) ∧ (i : Int) < (p.length : Int) by omega)]
    simp only
    rw [show (j : Int).toNat = j by omega, show (k : Int).toNat = k by omega, t2, decide_eq_false (show ¬ (j : Int) < 0 by omega), decide_eq_false (show ¬ (k : Int) ≤ (j : Int) by omega), decide_eq_false (show ¬ (k : Int) ≥ (s.length : Int) by omega),
      decide_eq_true (show 0 ≤ (j : Int) ∧ (j : Int) < (s.length : Int) by omega), decide_eq_true (show 0 ≤ (k : Int) ∧ (k : Int) < (s.length : Int) by omega), decide_eq_false (show ¬ (tcA s j k).1 > 0 by omega),
      show W64 ((i : Int) + 1) = ((i + 1 : Nat) : Int) from (W64_id (by omega) (by omega)).trans (by omega)]
    rfl
  · show (st_o3 s p (p.length : Int)).run = _
    unfold st_o3
    rw [decide_eq_false (show ¬ (p.length : Int) < (p.length : Int) by omega)]
    rfl
theorem outR_grow {l : List (TCT cBall)} {re dr : Int} (f : Nat) : ∀ (j : Nat) (t t' : SS), outR l re dr f j t = some t' → t'.2.length ≤ t.2.length + f * l.length := by
  induction f with
  | zero => intro j t t' h; rw [outR_zero, Option.some.injEq] at h; subst h; omega
  | succ f ih =>
    intro j t t' h
    rw [outR_succ] at h
    cases h1 : inR l re dr j (l.length - (j + 1)) (j + 1) t with
    | none => rw [h1] at h; simp at h
    | some t1 =>
      rw [h1, Option.bind_some] at h
      have a := (inR_len _ _ _ _ h1).2
      have b := ih (j + 1) t1 t' h
      rw [Nat.succ_mul]
      omega
theorem outR_plen {l : List (TCT cBall)} {re dr : Int} {s : Ms} {t : SS} (hl : l.length ≤ 6) (h : outR l re dr l.length 0 (s, []) = some t) : t.2.length ≤ 36 := by
  have := outR_grow _ _ _ _ h
  have e : (s, ([] : Ps)).2.length = 0 := rfl
  have := Nat.mul_le_mul hl hl
  omega
theorem T_oS_ok {s : Ms} (hs : ∀ q ∈ s, okM q = true) (hl : s.length ≤ 6) {re : Int} (h1 : 0 ≤ re) (h2 : re ≤ 950) : (T_oS (List.replicate s.length tB) s re 0).sat (fun _ => True) := by
  have hbl : (List.replicate s.length tB).length = s.length := List.length_replicate
  have hck : chkR (List.replicate s.length tB) s = 0 := by
    unfold chkR
    rw [hbl, decide_eq_false (show ¬ (s.length : Int) > 8 by omega), show ((s.length : Int) != (s.length : Int)) = false by simp]
    have : ((List.replicate s.length tB).zip s).all okBM = true := by
      rw [List.all_eq_true]
      rintro ⟨b, q⟩ hp
      obtain ⟨hb, hq⟩ := List.of_mem_zip hp
      have := List.eq_of_mem_replicate hb
      subst this
      exact hs q hq
    rw [this]; rfl
  have hbn : bncB re 0 = true := by
    unfold bncB outB
    simp; omega
  unfold T_oS SettleR
  rw [hck, hbn]
  cases ho : outR (List.replicate s.length tB) re 0 (List.replicate s.length tB).length 0 (s, []) with
  | none => exact trivial
  | some t =>
    have I0 : TInv (List.replicate s.length tB) s (s, []) := ⟨rfl, fun _ _ => rfl, (fun p hp => nomatch hp), fun _ _ => .inr rfl⟩
    have I := outR_inv hbl _ _ _ _ (by rw [hbl]; omega) I0 ho
    have hpl := outR_plen (by rw [hbl]; exact hl) ho
    show (bif ((t.1.length : Int) != (s.length : Int)) then Tree.fail else T_o1 s t.1 t.2).sat (fun _ => True)
    rw [I.len, show ((s.length : Int) != (s.length : Int)) = false by simp, cond_false]
    have hr : ∀ j, j < s.length → (bAt (List.replicate s.length tB) s j).r = 2946 := fun j hj => by
      show (getA (List.replicate s.length tB) j (dflt cBall)).2.1 = 2946
      rw [getA_lt (by rw [hbl]; exact hj), List.getElem_replicate]
    have htc : ∀ j k : Nat, j < s.length → k < s.length → closeB (bAt (List.replicate s.length tB) s j).px (bAt (List.replicate s.length tB) s j).py (bAt (List.replicate s.length tB) s k).px (bAt (List.replicate s.length tB) s k).py ((bAt (List.replicate s.length tB) s j).r + (bAt (List.replicate s.length tB) s k).r) = true → (tcA s j k).1 ≤ 0 ∧ (tcA s k j).1 ≤ 0 := by
      intro j k hj hk hc
      rw [hr j hj, hr k hk] at hc
      unfold closeB at hc
      have hc := (of_decide_eq_true hc).1
      have hc : sq (getA s j dM).1.1 (getA s j dM).1.2.1 (getA s k dM).1.1 (getA s k dM).1.2.1 ≤ 5892 * 5892 := hc
      rw [tcA_eq hs hj hk, tcA_eq hs hk hj, sq_sym (getA s k dM).1.1]
      exact ⟨sign_le' (by omega), sign_le' (by omega)⟩
    have e1 : y_o1 s t.1 t.2 = some (ex_o1 s t.2) := y_o1_eq hs hl t.2 I.len fun i hi ha => by
      rcases I.hit i hi with ⟨p, hp, hpi⟩ | h
      · exfalso
        obtain ⟨j, k, e, hjk, hk, hc⟩ := I.prs p hp
        subst e
        have ⟨c1, c2⟩ := htc j k (by omega) hk hc
        rcases hpi with e | e
        · have : j = i := by have e : (j : Int) = (i : Int) := e; omega
          subst this
          have := apF_all _ ha k hk (by omega)
          omega
        · have : k = i := by have e : (k : Int) = (i : Int) := e; omega
          subst this
          have := apF_all _ ha j (by omega) (by omega)
          omega
      · exact h
    unfold T_o1
    rw [e1]
    show (T_o3 s t.2).sat (fun _ => True)
    unfold T_o3
    rw [y_o3_eq hs (by omega) fun x hx => by
      obtain ⟨j, k, e, hjk, hk, hc⟩ := I.prs x hx
      exact ⟨j, k, e, hjk, hk, (htc j k (by omega) hk hc).1⟩]
    exact trivial
/-! the first loop -/
def elt (l : List (TCT cDot)) (m : List (TCT cP32)) (k : Nat) : TCT cMot := bif decide ((k : Int) < (m.length : Int)) then mk0 (getA l k (dflt cDot)) (q22 (getA m k (dflt cP32)).1) (q22 (getA m k (dflt cP32)).2.1) else mk0 (getA l k (dflt cDot)) 0 0
def sF (l : List (TCT cDot)) (m : List (TCT cP32)) (n : Nat) : Ms := (List.range n).map (elt l m)
theorem sF_len (l : List (TCT cDot)) (m : List (TCT cP32)) (n : Nat) : (sF l m n).length = n := by simp [sF]
theorem sF_succ (l : List (TCT cDot)) (m : List (TCT cP32)) (n : Nat) : sF l m (n + 1) = sF l m n ++ [elt l m n] := by simp [sF, List.range_succ]
theorem app_ok {β : Type} {h : List β} {x : β} {b : Nat} (k : h.length ≤ 6) (hb : b ≤ 48) : appOk h [x] b = true := by
  rw [appOk_eq]
  refine decide_eq_true ?_
  simp only [List.length_cons, List.length_nil]
  have h7 : h.length + (0 + 1) ≤ 7 := by omega
  have := Nat.mul_le_mul h7 hb
  have e : (((h.length + (0 + 1) : Nat) : Int) * (b : Int)) = (((h.length + (0 + 1)) * b : Nat) : Int) := by rw [Int.natCast_mul]
  rw [e]; omega
theorem y_o0_eq (l : List (TCT cDot)) (m : List (TCT cP32)) (re : Int) : y_o0 l m re = some (ex_o0 (List.replicate (min l.length 6) tB) (sF l m (min l.length 6)) re 0) := by
  unfold y_o0
  refine iter_to (st := stg_o0) (fun i => hd_o0 l m (List.replicate i tB) (sF l m i) (i : Int) re 0) _ (min l.length 6) ?_ ?_ 6 0 (by omega) (by omega)
  · intro i hi
    show (st_o0 l m (List.replicate i tB) (sF l m i) (i : Int) re 0).run = _
    unfold st_o0 ap0
    rw [decide_eq_true (show (i : Int) < (l.length : Int) by omega), decide_eq_true (show (i : Int) < 6 by omega), decide_eq_true (show 0 ≤ (i : Int) ∧ (i : Int) < (l.length : Int) by omega),
      show W64 ((i : Int) + 1) = ((i + 1 : Nat) : Int) from (W64_id (by omega) (by omega)).trans (by omega), show (i : Int).toNat = i by omega,
      app_ok (h := List.replicate i tB) (b := 16) (by simp; omega) (by omega), app_ok (h := sF l m i) (b := 48) (by rw [sF_len]; omega) (by omega), app_ok (h := sF l m i) (b := 48) (by rw [sF_len]; omega) (by omega)]
    rw [sF_succ, List.replicate_succ']
    unfold elt
    cases hm : decide ((i : Int) < (m.length : Int)) with
    | true =>
      have hm' := of_decide_eq_true hm
      rw [decide_eq_true (show 0 ≤ (i : Int) ∧ (i : Int) < (m.length : Int) by omega)]
      rfl
    | false => rfl
  · show (st_o0 l m (List.replicate (min l.length 6) tB) (sF l m (min l.length 6)) ((min l.length 6 : Nat) : Int) re 0).run = _
    unfold st_o0
    by_cases h : l.length ≤ 6
    · rw [decide_eq_false (show ¬ ((min l.length 6 : Nat) : Int) < (l.length : Int) by omega)]
      rfl
    · rw [decide_eq_true (show ((min l.length 6 : Nat) : Int) < (l.length : Int) by omega), decide_eq_false (show ¬ ((min l.length 6 : Nat) : Int) < 6 by omega)]
      rfl
theorem q22_bd (x : Int) : -4194303 ≤ q22 x ∧ q22 x ≤ 4194303 := by
  unfold q22
  have h1 := Int.tmod_lt_of_pos (W64 x) (b := 4194304) (by decide)
  have h2 : -4194304 < Int.tmod (W64 x) 4194304 := by
    have := Int.neg_tmod (W64 x) 4194304
    have h3 := Int.tmod_lt_of_pos (-(W64 x)) (b := 4194304) (by decide)
    omega
  omega
theorem q4_bd {x : Int} (h : 0 ≤ x ∧ x ≤ 65535) : 0 ≤ q4 x ∧ q4 x ≤ 16383 := by
  unfold q4
  rw [W64_id (n := x) (by omega) (by omega), Int.tdiv_eq_ediv_of_nonneg (by omega), W64_id (by omega) (by omega)]
  omega
theorem mk0_ok {d : TCT cDot} {x y : Int} (h1 : 0 ≤ d.1 ∧ d.1 ≤ 65535) (h2 : 0 ≤ d.2.1 ∧ d.2.1 ≤ 65535) (hx : -4194303 ≤ x ∧ x ≤ 4194303) (hy : -4194303 ≤ y ∧ y ≤ 4194303) : okM (mk0 d x y) = true := by
  have a := q4_bd h1
  have b := q4_bd h2
  show motB 450 2946 (q4 d.1) (q4 d.2.1) x y 0 0 = true
  unfold motB
  rw [show ballB 450 2946 = true by decide, show fpt (q4 d.1) (q4 d.2.1) = true from decide_eq_true (by omega)]
  have hst : strongB x y = true := by
    unfold strongB outB
    rw [decide_eq_false (show ¬ x < -16777216 by omega), decide_eq_false (show ¬ x > 16777216 by omega), decide_eq_false (show ¬ y < -16777216 by omega), decide_eq_false (show ¬ y > 16777216 by omega)]
    rfl
  rw [hst]
  decide
theorem re_bd {x : Int} (h : 0 ≤ x ∧ x ≤ 65535) : 0 ≤ Int.tmod (W64 x) 951 ∧ Int.tmod (W64 x) 951 ≤ 950 := by
  rw [W64_id (n := x) (by omega) (by omega), Int.tmod_eq_emod_of_nonneg h.1]
  omega
theorem topTouched_sat : LawSat X_topTouched 6 cs_topTouched 12 := lawSat 12 TY_topTouched TY_topTouched_eq (fun y hy => by
  obtain ⟨l, m, r, ⟨⟩⟩ := y
  obtain ⟨⟨_, hl⟩, _, hr, _⟩ := hy
  have hr : (0 : Int) ≤ r ∧ r ≤ 65535 := hr
  unfold TY_topTouched
  simp only
  rw [y_o0_eq]
  have hre : 0 ≤ Int.tmod (W64 r) 951 ∧ Int.tmod (W64 r) 951 ≤ 950 := re_bd hr
  have hlen : (sF l m (min l.length 6)).length = min l.length 6 := sF_len ..
  have key := T_oS_ok (s := sF l m (min l.length 6)) (fun q hq => by
    unfold sF at hq
    obtain ⟨k, hk, rfl⟩ := List.mem_map.1 hq
    have hk := List.mem_range.1 hk
    have hk' : k < l.length := by omega
    have hd := hl (getA l k (dflt cDot)) (by rw [getA_lt hk']; exact List.getElem_mem hk')
    obtain ⟨d1, d2, _⟩ := hd
    have d1 : (0 : Int) ≤ (getA l k (dflt cDot)).1 ∧ (getA l k (dflt cDot)).1 ≤ 65535 := d1
    have d2 : (0 : Int) ≤ (getA l k (dflt cDot)).2.1 ∧ (getA l k (dflt cDot)).2.1 ≤ 65535 := d2
    unfold elt
    cases decide ((k : Int) < (m.length : Int)) with
    | true => exact mk0_ok d1 d2 (q22_bd _) (q22_bd _)
    | false => exact mk0_ok d1 d2 (by omega) (by omega)) (by rw [hlen]; omega) hre.1 hre.2
  rw [hlen] at key
  exact key)
end V
end Go.Proofs.Ytialgmhhkbdegaa
